/- What the closing leans on: part 4. -/
import Derived.Test.YtflfhpokmidnmaaGreatDoorXc
import Derived.Test.YtflfhpokmidnmaaGreatDoorXb
import Derived.Lib.Overlaps
import Derived.Lib.AppendZerosOnto
namespace Go.Proofs.YtflfhpokmidnmaaGreatDoor
open Go Go.Sl Go.Gv Go.Po
set_option maxRecDepth 100000
theorem beforeR_spec (a b : Key) : Ct Tryz.prog 85 [keyV a, keyV b] [] (fun v hs => v = .bool (before a b) ∧ hs = []) := by
 refine Cti Tryz.func85 (by kernel_rfl) 20 Tryz.ntmps85 rfl rfl fun w0 R => ?_
 refine Gsr (La rfl (ac_box rfl rfl) ?_)
 rintro _ _ ⟨b2, rfl, rfl⟩
 refine La rfl (ac_box rfl rfl) ?_
 rintro _ _ ⟨b3, rfl, rfl⟩
 refine Las rfl rfl (Lnt (Gs.seq (Gsr (Lq rfl (pu_fa fa_35_0 rfl) (Lr rfl (rd_ld na_3 rfl (Rdc.cl1 (by repeat constructor) rfl)) ?_)))))
 refine Lq rfl (pu_fa fa_35_0 rfl) (Lr rfl (rd_ld na_3 rfl (Rdc.cl1 (by repeat constructor) rfl)) ?_)
 refine Lq rfl (pu_ne rfl rfl) (Lnt (Gs.cond rfl (fun hc0 => ?_) (fun hc0 => ?_)))
 ·
  refine Gsr (Lq rfl (pu_fa fa_35_0 rfl) (Lr rfl (rd_ld na_3 rfl (Rdc.cl1 (by repeat constructor) rfl)) ?_))
  refine Lq rfl (pu_fa fa_35_0 rfl) (Lr rfl (rd_ld na_3 rfl (Rdc.cl1 (by repeat constructor) rfl)) ?_)
  refine Lq rfl (pu_lt rfl rfl) (Las rfl rfl (Lnt (Gs.ret (Gr ?_))))
  exact Gs.fin1 Tryz.results85 rfl _ (⟨by grind [before], rfl⟩) (by repeat constructor)
 refine Gs.skip (Gn (Gsr (Lq rfl (pu_fa fa_35_1 rfl) (Lr rfl (rd_ld na_3 rfl (Rdc.cl1 (by repeat constructor) rfl)) ?_))))
 refine Lq rfl (pu_fa fa_35_1 rfl) (Lr rfl (rd_ld na_3 rfl (Rdc.cl1 (by repeat constructor) rfl)) ?_)
 refine Lq rfl (pu_lt rfl rfl) (Las rfl rfl (Lnt (Gs.ret ?_)))
 exact Gs.fin1 Tryz.results85 rfl _ (⟨by grind [before], rfl⟩) (by repeat constructor)
theorem rises_spec {S : HProp} {a : Option Addr} {c : Nat} {l : List Int} (hS : Srd S 1 intC a l) (hl : l.length ≤ 1000) :
   Ct Tryz.prog 171 [.slice a l.length c] [S] (fun v hs => v = .bool (risesB l) ∧ hs = [S]) := by
 refine Cti Tryz.func171 (by kernel_rfl) 20 Tryz.ntmps171 rfl rfl fun w0 R => ?_
 refine Gs.slAddr (hS.h (by repeat constructor)) fun ab ao ha => ?_
 refine Gsr (Las rfl rfl (Lnt (Gsr (Las rfl rfl (Lnt (Gs.seq (Gsr (Lmv rfl rfl (Lq rfl (pu_len Tryz.underlying30 rfl) (Lmv rfl rfl (Lnt ?_)))))))))))
 refine Gs.block (Gs.loop1 (fun s : Nat × Int => s.1 ≤ l.length ∧ risesFrom (-1) (l.take s.1) = true ∧ s.2 = lastOr (-1) (l.take s.1)) (fun s => [(0, .slice a l.length c), (3, int s.2), (6, .slice a l.length c), (7, int l.length), (8, int s.1)]) (fun _ => [S] ++ R) (fun s => l.length - s.1) (0, -1) (⟨Nat.zero_le _, rfl, rfl⟩) (by repeat constructor) (by repeat constructor) (fun s hs => ?_))
 obtain ⟨i, m⟩ := s
 obtain ⟨hi, hr, hm⟩ := hs
 dsimp only at hi hr hm ⊢
 refine Gsr (Lq rfl (pu_lt rfl rfl) (Lnt (Gs.seq (Gs.cond rfl (fun hc0 => ?_) (fun hc0 => ?_)))))
 ·
  have hlt : i < l.length := by have := of_decide_eq_true hc0; omega
  obtain ⟨x, hx⟩ : ∃ x, l[i]? = some x := ⟨l[i], by simp [hlt]⟩
  obtain rfl := ha (by rintro rfl; simp at hlt)
  have hst := rises_take (a := -1) hx
  rw [hr, Bool.true_and, ← hm] at hst
  refine Gs.skip (Gn (Gs.seq (Gs.block (Gsr (Lq rfl (pu_ia se_30 rfl rfl (by omega) (by omega)) (Lr rfl (rd_ld na_3 rfl (Rdc.el0 (hS.h (by repeat constructor)) hx rfl rfl)) ?_))))))
  refine Las rfl rfl (Lnt (Gs.seq (Gsr (Lmv rfl rfl (Lmv rfl rfl (Lq rfl (pu_le rfl rfl) (Lnt (Gs.cond rfl (fun hc1 => ?_) (fun hc1 => ?_)))))))))
  ·
   have hno : risesB l = false := rises_not (i := i + 1) (by rw [hst]; exact decide_eq_false (by have := of_decide_eq_true hc1; omega))
   refine Gsr (Las rfl rfl (Lnt (Gs.ret (Gr (Gs.blk_r (Gr (Gr (Gs.blk_r (Gr ?_)))))))))
   exact Gs.fin1 Tryz.results171 rfl _ (⟨by rw [hno], rfl⟩) (by repeat constructor)
  have hyes : risesFrom (-1) (l.take (i + 1)) = true := by rw [hst]; exact decide_eq_true (by have := of_decide_eq_false hc1; omega)
  refine Gs.skip (Gn (Gs.reg (Lmv rfl rfl (Las rfl rfl (Lnil (Gs.blk_n (Gn (Gs.reg (Lq rfl (by first | exact pu_addI rfl rfl rfl (by omega) (by omega) | exact pu_add rfl rfl) ?_)))))))))
  refine Lmv rfl rfl (Lnt ?_)
  exact Ag (i + 1, x) ⟨by show i + 1 ≤ l.length; omega, hyes, (last_take hx).symm⟩ (by show l.length - (i + 1) < l.length - i; omega)
 have hge : i = l.length := by have := of_decide_eq_false hc0; omega
 rw [hge, List.take_length] at hr
 refine Gs.exit (Gx (Gx (Gs.blk_hit (Gn (Gsr (Lmv rfl rfl (Lq rfl (pu_len Tryz.underlying30 rfl) (Lq rfl (pu_gt rfl rfl) (Las rfl rfl (Lnt (Gs.ret ?_)))))))))))
 exact Gs.fin1 Tryz.results171 rfl _ (⟨by rw [risesB, hr, Bool.true_and]; congr 1; exact decide_eq_decide.2 ⟨fun h e => by rw [e] at h; simp at h, fun h => by have := List.length_pos_iff.2 h; omega⟩, rfl⟩) (by repeat constructor)
theorem may_spec {S : HProp} {a : Option Addr} {c : Nat} {ps : List PostV} (hS : PRd S a ps) (hl : ps.length ≤ 1000) :
   Ct Tryz.prog 169 [.slice a ps.length c] [S] (fun v hs => v = .bool (mayB (plain1 ps)) ∧ hs = [S]) := by
 refine Cti Tryz.func169 (by kernel_rfl) 33 Tryz.ntmps169 rfl rfl fun w0 R => ?_
 refine Gs.slAddr (hS.1.h (by repeat constructor)) fun ab ao ha => ?_
 refine Gsr (Las rfl rfl (Lnt (Gs.seq (Gsr (Lmv rfl rfl (Lq rfl (pu_len Tryz.underlying216 rfl) (Lmv rfl rfl (Lnt (Gs.block (Gs.loop1 (fun i : Nat => i ≤ ps.length ∧ mayB ((plain1 ps).take i) = true) (fun i => [(0, .slice a ps.length c), (5, .slice a ps.length c), (6, int ps.length), (7, int i)]) (fun _ => [S] ++ R) (fun i => ps.length - i) 0 (⟨Nat.zero_le _, rfl⟩) (by repeat constructor) (by repeat constructor) (fun i ⟨hi, hm⟩ => ?_)))))))))))
 refine Gsr (Lq rfl (pu_lt rfl rfl) (Lnt (Gs.seq (Gs.cond rfl (fun hc0 => ?_) (fun hc0 => ?_)))))
 ·
  have hlt : i < ps.length := by have := of_decide_eq_true hc0; omega
  obtain ⟨x, hx⟩ : ∃ x, ps[i]? = some x := ⟨ps[i], by simp [hlt]⟩
  obtain rfl := ha (by rintro rfl; simp at hlt)
  obtain ⟨k1, k2⟩ := hS.2 x (List.mem_of_getElem? hx)
  have hxp := plain_at hx
  refine Gs.skip (Gn (Gs.seq (Gs.block (Gsr (Lmv rfl rfl (Lq rfl (pu_ia se_216 rfl rfl (by omega) (by omega)) (Lr rfl (rd_lda ag_219 rfl (Rdc.el0 (hS.1.h (by repeat constructor)) hx rfl rfl) rfl) ?_)))))))
  refine La rfl (ac_alloc zv_219 rfl) ?_
  rintro _ _ ⟨xb, rfl, rfl⟩
  refine Las rfl rfl (Lac0 rfl trivial (ac_st sz_219 rfl rfl (by repeat constructor) rfl rfl rfl rfl) ?_)
  rintro _ _ rfl
  refine Lnt (Gs.seq (Gs.regD mixed (by kernel_rfl) (Rq 0 rfl (by kernel_rfl) (pu_fa fa_219_1 rfl) (Rr 1 rfl (by kernel_rfl) (rd_ld na_30 rfl (Rdc.cl1 (by repeat constructor) rfl)) ?_))))
  refine Rg.one (by kernel_rfl) (Stp.ac 2 rfl rfl (by kernel_rfl) trivial (asC (rises_spec k1 k2))  ?_)
  rintro _ _ ⟨_, ⟨rfl, rfl⟩, rfl⟩
  refine Rq 3 rfl (by kernel_rfl) (pu_not rfl) (Rg.puB 4 rfl rfl (by kernel_rfl) trivial (pu_move rfl) (fun hg4 => ?_) (fun hg4 => ?_))
  ·
   have hno : mayB (plain1 ps) = false := may_step_no hxp (not_t hg4)
   refine Rof 5 rfl (by kernel_rfl) rfl (Rof 6 rfl (by kernel_rfl) rfl (Rof 7 rfl (by kernel_rfl) rfl (Rg.offU 8 rfl rfl (by kernel_rfl) rfl rfl rfl (Rg.offU 9 rfl rfl (by kernel_rfl) rfl rfl rfl (Rg.offU 10 rfl rfl (by kernel_rfl) rfl rfl rfl (Rg.offU 11 rfl rfl (by kernel_rfl) rfl rfl rfl (Rg.offU 12 rfl rfl (by kernel_rfl) rfl rfl rfl (Rg.offU 13 rfl rfl (by kernel_rfl) rfl rfl rfl (Rg.offU 14 rfl rfl (by kernel_rfl) rfl rfl rfl (Rg.offU 15 rfl rfl (by kernel_rfl) rfl rfl rfl (Rg.offU 16 rfl rfl (by kernel_rfl) rfl rfl rfl ?_)))))))))))
   refine Rg.offU 17 rfl rfl (by kernel_rfl) rfl rfl rfl (Rof 18 rfl (by kernel_rfl) rfl (Rpk 19 rfl (by kernel_rfl) rfl rfl (Rg.end (by kernel_rfl) (Gn (Gs.cond_t rfl (Gsr (Las rfl rfl (Lnt (Gs.ret (Gs.blk_r (Gr ?_)))))))))))
   refine Gr (Gs.blk_r (Gr ?_))
   exact Gs.fin1 Tryz.results169 rfl _ (⟨by rw [hno], rfl⟩) (by repeat constructor)
  have hri : risesB x.p.2 = true := not_f hg4
  refine Rg.pu 5 rfl rfl (by kernel_rfl) ⟨_, rfl, rfl⟩ (pu_move rfl) (Rg.pu 6 rfl rfl (by kernel_rfl) ⟨_, rfl, rfl⟩ (pu_gt rfl rfl) (Rg.puB 7 rfl rfl (by kernel_rfl) ⟨_, rfl, rfl⟩ (pu_move rfl) (fun hg7 => ?_) (fun hg7 => ?_)))
  ·
   have hi0 : 0 < i := by have := of_decide_eq_true hg7; omega
   obtain ⟨y, hy⟩ : ∃ x, ps[i - 1]? = some x := ⟨ps[i - 1]'(by omega), by simp⟩
   have hst := may_stepS hi0 hxp (plain_at hy) hm
   rw [hri, Bool.true_and] at hst
   refine Rg.pu 8 rfl rfl (by kernel_rfl) ⟨_, rfl, rfl⟩ (pu_move rfl) (Rg.pu 9 rfl rfl (by kernel_rfl) ⟨_, rfl, rfl⟩ (pu_move rfl) (Rg.pu 10 rfl rfl (by kernel_rfl) ⟨_, rfl, rfl⟩ (pu_subI (z := ((i - 1 : Nat) : Int)) rfl rfl (by omega) (by omega) (by omega)) ?_))
   refine Rg.pu 11 rfl rfl (by kernel_rfl) ⟨_, rfl, rfl⟩ (pu_ia se_216 rfl rfl (by omega) (by omega)) (Rg.pu 12 rfl rfl (by kernel_rfl) ⟨_, rfl, rfl⟩ (pu_fa fa_219_0 rfl) (Rg.rd 13 rfl rfl (by kernel_rfl) ⟨_, rfl, rfl⟩ (rd_lda ag_35 rfl (Rdc.elp 2 (hS.1.h (by repeat constructor)) hy rfl rfl) rfl) ?_))
   refine Rg.pu 14 rfl rfl (by kernel_rfl) ⟨_, rfl, rfl⟩ (pu_fa fa_219_0 rfl) (Rg.rd 15 rfl rfl (by kernel_rfl) ⟨_, rfl, rfl⟩ (rd_lda ag_35 rfl (Rdc.cl 2 (by repeat constructor) rfl) rfl) ?_)
   refine Rg.one (by kernel_rfl) (Stp.ac 16 rfl rfl (by kernel_rfl) ⟨_, rfl, rfl⟩ (asC (beforeR_spec y.k x.k))  ?_)
   rintro _ _ ⟨_, ⟨rfl, rfl⟩, rfl⟩
   refine Rg.pu 17 rfl rfl (by kernel_rfl) ⟨_, rfl, rfl⟩ (pu_not rfl) (Rg.pu 18 rfl rfl (by kernel_rfl) ⟨_, rfl, rfl⟩ (by first | exact pu_pick_t rfl rfl | exact pu_pick_f rfl rfl) ?_)
   refine Rpk 19 rfl (by kernel_rfl) rfl rfl (Rg.end (by kernel_rfl) (Gn (Gs.cond rfl (fun hc1 => ?_) (fun hc1 => ?_))))
   ·
    have hno : mayB (plain1 ps) = false := may_not (i := i + 1) (by rw [hst]; exact not_t hc1)
    refine Gsr (Las rfl rfl (Lnt (Gs.ret (Gs.blk_r (Gr (Gr (Gs.blk_r (Gr ?_))))))))
    exact Gs.fin1 Tryz.results169 rfl _ (⟨by rw [hno], rfl⟩) (by repeat constructor)
   have hyes : mayB ((plain1 ps).take (i + 1)) = true := by rw [hst]; exact not_f hc1
   refine Gs.skip (Gs.blk_n (Gn (Gs.reg (Lq rfl (by first | exact pu_addI rfl rfl rfl (by omega) (by omega) | exact pu_add rfl rfl) ?_))))
   refine Lmv rfl rfl (Lnt ?_)
   exact Ag (i + 1) ⟨by omega, hyes⟩ (by omega)
  have hi0 : i = 0 := by have := of_decide_eq_false hg7; omega
  have hyes : mayB ((plain1 ps).take (i + 1)) = true := by rw [may_step0 hi0 hxp]; exact hri
  refine Rof 8 rfl (by kernel_rfl) rfl (Rof 9 rfl (by kernel_rfl) rfl (Rof 10 rfl (by kernel_rfl) rfl (Rof 11 rfl (by kernel_rfl) rfl (Rof 12 rfl (by kernel_rfl) rfl (Rof 13 rfl (by kernel_rfl) rfl (Rof 14 rfl (by kernel_rfl) rfl (Rof 15 rfl (by kernel_rfl) rfl (Rof 16 rfl (by kernel_rfl) rfl (Rof 17 rfl (by kernel_rfl) rfl (Rg.pu 18 rfl rfl (by kernel_rfl) ⟨_, rfl, rfl⟩ (by first | exact pu_pick_t rfl rfl | exact pu_pick_f rfl rfl) ?_))))))))))
  refine Rpk 19 rfl (by kernel_rfl) rfl rfl (Rg.end (by kernel_rfl) (Gn (Gs.cond_f rfl (Gs.skip (Gs.blk_n (Gn (Gs.reg (Lq rfl (by first | exact pu_addI rfl rfl rfl (by omega) (by omega) | exact pu_add rfl rfl) ?_))))))))
  refine Lmv rfl rfl (Lnt ?_)
  exact Ag (i + 1) ⟨by omega, hyes⟩ (by omega)
 have hge : i = ps.length := by have := of_decide_eq_false hc0; omega
 rw [hge, List.take_of_length_le (by simp)] at hm
 refine Gs.exit (Gx (Gx (Gs.blk_hit (Gn (Gsr (Las rfl rfl (Lnt (Gs.ret ?_))))))))
 exact Gs.fin1 Tryz.results169 rfl _ (⟨by rw [hm], rfl⟩) (by repeat constructor)
end Go.Proofs.YtflfhpokmidnmaaGreatDoor
namespace Go.Po
open Go Go.Sl Go.Gv
theorem mayFrom_asc : ∀ {q : Option Key} {l : List PostP}, mayFrom q l = true → (l.map Prod.fst).Pairwise (fun a b => before a b = true) ∧ (∀ k, q = some k → ∀ p ∈ l, before k p.1 = true) ∧ ∀ p ∈ l, risesB p.2 = true
 | _, [], _ => ⟨List.Pairwise.nil, fun _ _ _ h => (by cases h), fun _ h => (by cases h)⟩
 | q, p :: l, h => by
   simp only [mayFrom, Bool.and_eq_true] at h
   obtain ⟨h1, h2, h3⟩ := mayFrom_asc h.2.2
   refine ⟨List.pairwise_cons.2 ⟨fun k hk => ?_, h1⟩, fun k hq x hx => ?_, fun x hx => ?_⟩
   · obtain ⟨x, hx, rfl⟩ := List.mem_map.1 hk
     exact h2 _ rfl x hx
   · subst hq
     rcases List.mem_cons.1 hx with rfl | hx
     · exact h.2.1
     · exact before_trans h.2.1 (h2 _ rfl x hx)
   · rcases List.mem_cons.1 hx with rfl | hx
     · exact h.1
     · exact h3 x hx
theorem may_asc {l : List PostP} (h : mayB l = true) : (l.map Prod.fst).Pairwise (fun a b => before a b = true) := (mayFrom_asc h).1
theorem may_rises {l : List PostP} (h : mayB l = true) : ∀ p ∈ l, risesB p.2 = true := (mayFrom_asc h).2.2
def PostV.zero : PostV := ⟨⟨0, 0⟩, ⟨none, [], 0⟩⟩
def ordZ (a k : Key) : Int := if before a k then -1 else if before k a then 1 else 0
def cutI (ps : List PostV) (k : Key) (i : Nat) : Prop := i ≤ ps.length ∧ (∀ m x, m < i → ps[m]? = some x → before x.k k = true) ∧ ∀ m x, i ≤ m → ps[m]? = some x → before x.k k = false
theorem asc_lt {ps : List PostV} (h : ((ps.map PostV.p).map Prod.fst).Pairwise (fun a b => before a b = true)) {i j : Nat} {x y : PostV} (hij : i < j) (hx : ps[i]? = some x) (hy : ps[j]? = some y) : before x.k y.k = true := by
 obtain ⟨h1, rfl⟩ := List.getElem?_eq_some_iff.1 hx
 obtain ⟨h2, rfl⟩ := List.getElem?_eq_some_iff.1 hy
 have := List.pairwise_iff_getElem.1 h i j (by simpa using h1) (by simpa using h2) hij
 simpa [PostV.p] using this
theorem before_asymm {a b : Key} (h : before a b = true) : before b a = false := by rw [before_iff] at h; rw [before_not]; omega
end Go.Po
namespace Go.Proofs.YtflfhpokmidnmaaGreatDoor
open Go Go.Sl Go.Gv Go.Po
set_option maxRecDepth 100000
end Go.Proofs.YtflfhpokmidnmaaGreatDoor
namespace Go.Sl
open Go
section
variable {P : Program} {n : Nat} {w0 : World} {env : Env} {H : List HProp} {d : Option Tmp} {x y z : Operand} {T T' ty : TypeId} {pos : String} {af : Array Edge} {g : Option (Nat × Bool)}
def xorK (k : IntKind) (i j : Int) : Int := k.wrap (BitVec.ofInt k.bits i ^^^ BitVec.ofInt k.bits j).toNat
theorem pu_xor {k : IntKind} {i j : Int} (h : ev env x = some (.int k i)) (h' : ev env y = some (.int k j)) : Pu P ⟨d, .binOp .xor T x y T', ty, pos, af, g⟩ env (.int k (xorK k i j)) := fun ρ w e => by
 refine run_v (s := do eqGuard .xor T x y (ρ x) (ρ y); binOp .xor T (ρ x) (ρ y)) ?_
 rw [e.eval h, e.eval h']
 simp only [Sem.run_bind, eqGuard_int, Result.andThen_ok]
 simp [binOp, Op.intBits, xorK]
def shrK (k : IntKind) (i j : Int) : Int := i.fdiv (2 ^ (min j.toNat k.bits))
theorem pu_shr {k k' : IntKind} {i j : Int} (h : ev env x = some (.int k i)) (h' : ev env y = some (.int k' j)) (hj : 0 ≤ j) : Pu P ⟨d, .binOp .shr T x y T', ty, pos, af, g⟩ env (.int k (shrK k i j)) := fun ρ w e => by
 refine run_v (s := do eqGuard .shr T x y (ρ x) (ρ y); binOp .shr T (ρ x) (ρ y)) ?_
 rw [e.eval h, e.eval h']
 have hg : (eqGuard .shr T x y (.int k i) (.int k' j)).run P w = .ok () w := by rfl
 have hn : ¬ j < 0 := by omega
 simp only [Sem.run_bind, hg, Result.andThen_ok]
 simp [binOp, Op.shift, hn, shrK]
def cutB (z : Int) : UInt8 := UInt8.ofNat (IntKind.u8.wrap z).toNat
theorem cutB_eq (z : Int) : IntKind.u8.wrap z = (cutB z).toNat := by
 have h : 0 ≤ IntKind.u8.wrap z ∧ IntKind.u8.wrap z ≤ 255 := by simp [IntKind.wrap, IntKind.bits, IntKind.signed]; omega
 unfold cutB
 have e : (UInt8.ofNat (IntKind.u8.wrap z).toNat).toNat = (IntKind.u8.wrap z).toNat % 256 := UInt8.toNat_ofNat'
 rw [e]; omega
theorem SrcH.strB {tx : Nat} (hk : P.underlying tx = some .string) (s : ByteArray) : SrcH P w0 H 1 tx (.string s) s.data.toList.length (s.data.toList.flatMap fun c : UInt8 => [Value.int .u8 c.toNat]) := by
 have h := SrcH.str (w0 := w0) (H := H) hk s
 have e1 : byteCells s = s.data.toList.flatMap fun c : UInt8 => [Value.int .u8 c.toNat] := by
   unfold byteCells; generalize s.data.toList = l
   induction l with
   | nil => rfl
   | cons c l ih => simp [ih]
 rw [e1] at h
 have e2 : s.size = s.data.toList.length := by rw [Array.length_toList]; rfl
 rwa [e2] at h
end
end Go.Sl
namespace Go.Proofs.YtflfhpokmidnmaaGreatDoor
open Go Go.Sl Go.Gv Go.Po
set_option maxRecDepth 100000
theorem order_spec (p : PostV) (k : Key) : Ct Tryz.prog 173 [postV p, keyV k] [] (fun v hs => v = int (ordZ p.k k) ∧ hs = []) := by
 refine Cti Tryz.func173 (by kernel_rfl) 15 Tryz.ntmps173 rfl rfl fun w0 R => ?_
 refine Gsr (La rfl (ac_box rfl rfl) ?_)
 rintro _ _ ⟨pb, rfl, rfl⟩
 refine La rfl (ac_box rfl rfl) ?_
 rintro _ _ ⟨kb, rfl, rfl⟩
 refine Las rfl rfl (Lnt (Gs.seq (Gs.block (Gsr (Lq rfl (pu_fa fa_219_0 rfl) (Lr rfl (rd_lda ag_35 rfl (Rdc.cl 2 (by repeat constructor) rfl) rfl) ?_))))))
 refine Lr rfl (rd_lda ag_35 rfl (Rdc.cl 2 (by repeat constructor) rfl) rfl) ?_
 refine La rfl (asC (beforeR_spec p.k k)) ?_
 rintro _ _ ⟨_, ⟨rfl, rfl⟩, rfl⟩
 refine Las rfl rfl (Lnt (Gs.cond rfl (fun hc0 => ?_) (fun hc0 => ?_)))
 ·
  refine Gsr (Las rfl rfl (Lnt (Gs.ret (Gs.blk_r (Gr ?_)))))
  exact Gs.fin1 Tryz.results173 rfl _ (⟨by simp [ordZ, hc0], rfl⟩) (by repeat constructor)
 refine Gsr (Lr rfl (rd_lda ag_35 rfl (Rdc.cl 2 (by repeat constructor) rfl) rfl) ?_)
 refine Lq rfl (pu_fa fa_219_0 rfl) (Lr rfl (rd_lda ag_35 rfl (Rdc.cl 2 (by repeat constructor) rfl) rfl) ?_)
 refine La rfl (asC (beforeR_spec k p.k)) ?_
 rintro _ _ ⟨_, ⟨rfl, rfl⟩, rfl⟩
 refine Las rfl rfl (Lnt (Gs.cond rfl (fun hc1 => ?_) (fun hc1 => ?_)))
 ·
  refine Gsr (Las rfl rfl (Lnt (Gs.ret (Gs.blk_r (Gr ?_)))))
  exact Gs.fin1 Tryz.results173 rfl _ (⟨by simp [ordZ, hc0, hc1], rfl⟩) (by repeat constructor)
 refine Gs.skip (Gs.blk_n (Gn (Gsr (Las rfl rfl (Lnt (Gs.ret ?_))))))
 exact Gs.fin1 Tryz.results173 rfl _ (⟨by simp [ordZ, hc0, hc1], rfl⟩) (by repeat constructor)
theorem ordZ_lt {a k : Key} : decide (ordZ a k < 0) = before a k := by
 unfold ordZ; split
 · rename_i h; rw [h]; rfl
 · rename_i h
   have : before a k = false := by simpa using h
   rw [this]; split <;> rfl
theorem ordZ_eq {a k : Key} : decide (ordZ a k = 0) = decide (a = k) := by
 unfold ordZ; split
 · rename_i h
   have : a ≠ k := fun e => by rw [e, before_irr] at h; cases h
   simp [this]
 · rename_i h
   split
   · rename_i h2
     have : a ≠ k := fun e => by rw [e, before_irr] at h2; cases h2
     simp [this]
   · rename_i h2
     have : a = k := Classical.byContradiction fun hne => by rcases before_total hne with h3 | h3; exact h h3; exact h2 h3
     simp [this]
theorem half {i j : Nat} (hj : i + j ≤ 100000) : IntKind.i64.wrap (shrK .u64 (IntKind.u64.wrap ((i : Int) + (j : Int))) 1) = (((i + j) / 2 : Nat) : Int) := by
 have h1 : IntKind.u64.wrap ((i : Int) + (j : Int)) = (i : Int) + (j : Int) := by simp [IntKind.wrap, IntKind.bits, IntKind.signed]; omega
 rw [h1]
 have h2 : shrK .u64 ((i : Int) + (j : Int)) 1 = ((i : Int) + (j : Int)) / 2 := by
   show ((i : Int) + (j : Int)).fdiv (2 ^ 1) = _
   rw [Int.fdiv_eq_ediv_of_nonneg _ (by decide)]; rfl
 rw [h2, wrap_in (by omega) (by omega)]; omega
abbrev orderV : Value := .func (.func 173) #[] #[]
theorem bsf_spec {S : HProp} {a : Option Addr} {c : Nat} {ps : List PostV} (hS : Srd S 3 postC a ps) (hl : ps.length ≤ 1000) (hasc : ((ps.map PostV.p).map Prod.fst).Pairwise (fun a b => before a b = true)) (k : Key) :
   Ct Tryz.prog 172 [.slice a ps.length c, keyV k, orderV] [S] (fun v hs => (∃ i : Nat, v = .tuple #[int i, .bool (decide (ps[i]?.map PostV.k = some k))] ∧ cutI ps k i) ∧ hs = [S]) := by
 have hg : ∀ (p : PostV) (k : Key), Ct Tryz.prog 173 ([] ++ [postV p, keyV k] ++ []) [] (fun v hs => v = int (ordZ p.k k) ∧ hs = []) := fun p k => order_spec p k
 refine Cti Tryz.func172 (by kernel_rfl) 49 Tryz.ntmps172 rfl rfl fun w0 R => ?_
 refine Gs.slAddr (hS.h (by repeat constructor)) fun ab ao ha => ?_
 refine Gsr (La rfl (ac_box rfl rfl) ?_)
 rintro _ _ ⟨kb, rfl, rfl⟩
 refine Las rfl rfl (Las rfl rfl (Lnt (Gsr (Lmv rfl rfl (Lq rfl (pu_len Tryz.underlying216 rfl) (Las rfl rfl (Lnt (Gsr (Lmv rfl rfl (Las rfl rfl (Las rfl rfl ?_)))))))))))
 refine Lnt (Gs.seq (Gs.block (Gs.loop1 (fun s : Nat × Nat => s.1 ≤ s.2 ∧ s.2 ≤ ps.length ∧ (∀ m x, m < s.1 → ps[m]? = some x → before x.k k = true) ∧ (∀ m x, s.2 ≤ m → ps[m]? = some x → before x.k k = false)) (fun s => [(0, .slice a ps.length c), (2, orderV), (4, ptr kb), (8, int ps.length), (9, int s.1), (10, int s.2)]) (fun s => [S, cl kb 35 (keyC k)] ++ R) (fun s => s.2 - s.1) (0, ps.length) (⟨Nat.zero_le _, Nat.le_refl _, fun m x h => by omega, fun m x h hx => by have := (List.getElem?_eq_some_iff.1 hx).1; omega⟩) (by repeat constructor) (by repeat constructor) (fun s hs => ?_))))
 obtain ⟨i, j⟩ := s
 obtain ⟨hij, hj, hlo, hhi⟩ := hs
 dsimp only at hij hj hlo hhi ⊢
 refine Gs.seq (Gsr (Lmv rfl rfl (Lmv rfl rfl (Lq rfl (pu_lt rfl rfl) (Lnt (Gs.cond rfl (fun hc0 => ?_) (fun hc0 => ?_)))))))
 ·
  have hlt : i < j := by have := of_decide_eq_true hc0; omega
  obtain ⟨y, hy⟩ : ∃ x, ps[(i + j) / 2]? = some x := ⟨ps[(i + j) / 2]'(by omega), by simp⟩
  obtain rfl := ha (by rintro rfl; simp at hy)
  refine Gs.skip (Gn (Gs.block (Gsr (Lmv rfl rfl (Lmv rfl rfl (Lq rfl (by first | exact pu_addI rfl rfl rfl (by omega) (by omega) | exact pu_add rfl rfl) ?_))))))
  refine Lq rfl (pu_conv Tryz.underlying3 Tryz.underlying65 rfl) (Lq rfl (pu_shr rfl rfl (by omega)) (Lq rfl (pu_conv Tryz.underlying65 Tryz.underlying3 rfl) ?_))
  rw [half (by omega)]
  refine Las rfl rfl (Lnt (Gs.seq (Gs.regD mixed (by kernel_rfl) (Rmv 0 rfl (by kernel_rfl) rfl (Rmv 1 rfl (by kernel_rfl) rfl (Rmv 2 rfl (by kernel_rfl) rfl (Rq 3 rfl (by kernel_rfl) (pu_ia se_216 rfl rfl (by omega) (by omega)) (Rr 4 rfl (by kernel_rfl) (rd_lda ag_219 rfl (Rdc.el0 (hS.h (by repeat constructor)) hy rfl rfl) rfl) ?_))))))))
  refine Rr 5 rfl (by kernel_rfl) (rd_lda ag_35 rfl (Rdc.cl 2 (by repeat constructor) rfl) rfl) ?_
  refine Rg.one (by kernel_rfl) (Stp.ac 6 rfl rfl (by kernel_rfl) trivial (as_callV rfl (hg y k) (by repeat constructor) (by repeat constructor))  ?_)
  rintro _ _ ⟨_, ⟨rfl, rfl⟩, rfl⟩
  refine Rq 7 rfl (by kernel_rfl) (pu_lt rfl rfl) (Rg.end (by kernel_rfl) (Gn (Gs.cond rfl (fun hc1 => ?_) (fun hc1 => ?_))))
  ·
   have hby : before y.k k = true := by rw [← ordZ_lt]; exact hc1
   have hlo2 : ∀ m x, m < (i + j) / 2 + 1 → ps[m]? = some x → before x.k k = true := fun m x hm hx => by
     rcases Nat.lt_or_eq_of_le (Nat.lt_succ_iff.1 hm) with h | h
     · exact before_trans (asc_lt hasc h hx hy) hby
     · subst h; rw [hy] at hx; cases hx; exact hby
   refine Gs.reg (Lmv rfl rfl (Lq rfl (pu_addI (z := (((i + j) / 2 + 1 : Nat) : Int)) rfl rfl (by omega) (by omega) (by omega)) ?_))
   refine Las rfl rfl (Lnil (Gs.blk_n (Gn ?_)))
   first | exact Ag ((i + j) / 2 + 1, j) ⟨by show (i + j) / 2 + 1 ≤ j; omega, hj, hlo2, hhi⟩ (by show j - ((i + j) / 2 + 1) < j - i; omega) | exact Ag (i, (i + j) / 2) ⟨by show i ≤ (i + j) / 2; omega, by show (i + j) / 2 ≤ ps.length; omega, hlo, hhi2⟩ (by show (i + j) / 2 - i < j - i; omega)
  have hby : before y.k k = false := by rw [← ordZ_lt]; exact hc1
  have hhi2 : ∀ m x, (i + j) / 2 ≤ m → ps[m]? = some x → before x.k k = false := fun m x hm hx => by
    rcases Nat.lt_or_eq_of_le hm with h | h
    · cases hb : before x.k k with
      | false => rfl
      | true => rw [before_trans (asc_lt hasc h hy hx) hb] at hby; cases hby
    · subst h; rw [hy] at hx; cases hx; exact hby
  refine Gs.reg (Lmv rfl rfl (Las rfl rfl (Lnil (Gs.blk_n (Gn ?_)))))
  first | exact Ag ((i + j) / 2 + 1, j) ⟨by show (i + j) / 2 + 1 ≤ j; omega, hj, hlo2, hhi⟩ (by show j - ((i + j) / 2 + 1) < j - i; omega) | exact Ag (i, (i + j) / 2) ⟨by show i ≤ (i + j) / 2; omega, by show (i + j) / 2 ≤ ps.length; omega, hlo, hhi2⟩ (by show (i + j) / 2 - i < j - i; omega)
 have hge : i = j := by have := of_decide_eq_false hc0; omega
 subst hge
 refine Gs.exit (Gx (Gx (Gs.blk_hit (Gn (Gs.seq (Gs.regD mixed (by kernel_rfl) (Rmv 0 rfl (by kernel_rfl) rfl (Rmv 1 rfl (by kernel_rfl) rfl (Rmv 2 rfl (by kernel_rfl) rfl (Rq 3 rfl (by kernel_rfl) (pu_lt rfl rfl) (Rg.puB 4 rfl rfl (by kernel_rfl) trivial (pu_move rfl) (fun hg4 => ?_) (fun hg4 => ?_))))))))))))
 ·
  have hlt : i < ps.length := by have := of_decide_eq_true hg4; omega
  obtain ⟨y, hy⟩ : ∃ x, ps[i]? = some x := ⟨ps[i], by simp [hlt]⟩
  obtain rfl := ha (by rintro rfl; simp at hy)
  have hval : ps[i]?.map PostV.k = some y.k := by rw [hy]; rfl
  refine Rg.pu 5 rfl rfl (by kernel_rfl) ⟨_, rfl, rfl⟩ (pu_move rfl) (Rg.pu 6 rfl rfl (by kernel_rfl) ⟨_, rfl, rfl⟩ (pu_move rfl) (Rg.pu 7 rfl rfl (by kernel_rfl) ⟨_, rfl, rfl⟩ (pu_move rfl) (Rg.pu 8 rfl rfl (by kernel_rfl) ⟨_, rfl, rfl⟩ (pu_ia se_216 rfl rfl (by omega) (by omega)) (Rg.rd 9 rfl rfl (by kernel_rfl) ⟨_, rfl, rfl⟩ (rd_lda ag_219 rfl (Rdc.el0 (hS.h (by repeat constructor)) hy rfl rfl) rfl) ?_))))
  refine Rg.rd 10 rfl rfl (by kernel_rfl) ⟨_, rfl, rfl⟩ (rd_lda ag_35 rfl (Rdc.cl 2 (by repeat constructor) rfl) rfl) ?_
  refine Rg.one (by kernel_rfl) (Stp.ac 11 rfl rfl (by kernel_rfl) ⟨_, rfl, rfl⟩ (as_callV rfl (hg y k) (by repeat constructor) (by repeat constructor))  ?_)
  rintro _ _ ⟨_, ⟨rfl, rfl⟩, rfl⟩
  refine Rg.pu 12 rfl rfl (by kernel_rfl) ⟨_, rfl, rfl⟩ (pu_eq rfl rfl) (Rpk 13 rfl (by kernel_rfl) rfl rfl (Rq 14 rfl (by kernel_rfl) (pu_assign rfl) (Rq 15 rfl (by kernel_rfl) (pu_assign rfl) (Rg.end (by kernel_rfl) (Gn (Gs.ret ?_))))))
  exact Gs.fin2 Tryz.results172 rfl rfl _ (⟨⟨i, by first | (rw [hval, ordZ_eq]; simp; done) | (rw [hval]; simp), hj, hlo, hhi⟩, rfl⟩) (by repeat constructor)
 have hge : i = ps.length := by have := of_decide_eq_false hg4; omega
 have hval : ps[i]?.map PostV.k = none := by rw [hge]; simp
 refine Rof 5 rfl (by kernel_rfl) rfl (Rof 6 rfl (by kernel_rfl) rfl (Rof 7 rfl (by kernel_rfl) rfl (Rof 8 rfl (by kernel_rfl) rfl (Rof 9 rfl (by kernel_rfl) rfl (Rof 10 rfl (by kernel_rfl) rfl (Rof 11 rfl (by kernel_rfl) rfl (Rof 12 rfl (by kernel_rfl) rfl (Rpk 13 rfl (by kernel_rfl) rfl rfl (Rq 14 rfl (by kernel_rfl) (pu_assign rfl) (Rq 15 rfl (by kernel_rfl) (pu_assign rfl) (Rg.end (by kernel_rfl) ?_)))))))))))
 refine Gn (Gs.ret ?_)
 exact Gs.fin2 Tryz.results172 rfl rfl _ (⟨⟨i, by first | (rw [hval, ordZ_eq]; simp; done) | (rw [hval]; simp), hj, hlo, hhi⟩, rfl⟩) (by repeat constructor)
end Go.Proofs.YtflfhpokmidnmaaGreatDoor
namespace Go.Po
open Go Go.Sl Go.Gv
end Go.Po
namespace Go.Proofs.YtflfhpokmidnmaaGreatDoor
open Go Go.Sl Go.Gv Go.Po
set_option maxRecDepth 100000
end Go.Proofs.YtflfhpokmidnmaaGreatDoor
namespace Go.Po
open Go Go.Sl Go.Gv
end Go.Po
namespace Go.Proofs.YtflfhpokmidnmaaGreatDoor
open Go Go.Sl Go.Gv Go.Po
set_option maxRecDepth 100000
end Go.Proofs.YtflfhpokmidnmaaGreatDoor
namespace Go.Proofs.YtflfhpokmidnmaaGreatDoor
open Go Go.Sl Go.Gv Go.Po
set_option maxRecDepth 100000
end Go.Proofs.YtflfhpokmidnmaaGreatDoor
namespace Go.Sl
open Go
end Go.Sl
namespace Go.Po
open Go Go.Sl Go.Gv
end Go.Po
namespace Go.Proofs.YtflfhpokmidnmaaGreatDoor
open Go Go.Sl Go.Gv Go.Po
set_option maxRecDepth 100000
end Go.Proofs.YtflfhpokmidnmaaGreatDoor
namespace Go.Po
open Go Go.Sl Go.Gv
end Go.Po
namespace Go.Proofs.YtflfhpokmidnmaaGreatDoor
open Go Go.Sl Go.Gv Go.Po
set_option maxRecDepth 100000
end Go.Proofs.YtflfhpokmidnmaaGreatDoor
namespace Go.Po
open Go Go.Sl Go.Gv
end Go.Po
namespace Go.Proofs.YtflfhpokmidnmaaGreatDoor
open Go Go.Sl Go.Gv Go.Po
set_option maxRecDepth 100000
end Go.Proofs.YtflfhpokmidnmaaGreatDoor
namespace Go.Sl
open Go
variable {P : Program} {w0 : World} {n : Nat} {env : Env} {H : List HProp}
end Go.Sl
namespace Go.Po
open Go Go.Sl Go.Gv
end Go.Po
namespace Go.Proofs.YtflfhpokmidnmaaGreatDoor
open Go Go.Sl Go.Gv Go.Po
set_option maxRecDepth 100000
end Go.Proofs.YtflfhpokmidnmaaGreatDoor
namespace Go.Proofs.YtflfhpokmidnmaaGreatDoor
open Go Go.Sl Go.Gv Go.Po
set_option maxRecDepth 100000
end Go.Proofs.YtflfhpokmidnmaaGreatDoor
namespace Go.Proofs.YtflfhpokmidnmaaGreatDoor
open Go Go.Sl Go.Gv
set_option maxRecDepth 100000
theorem sameInts_spec {S : HProp} {a b : Option Addr} {c d : Nat} {xs ys : List Int} (hS : Srd S 1 intC a xs) (hU : Srd S 1 intC b ys) (hl : xs.length ≤ 1000000) :
   Ct Tryz.prog 14 [.slice a xs.length c, .slice b ys.length d] [S] (fun v hs => v = .bool (decide (xs = ys)) ∧ hs = [S]) := by
 refine Cti Tryz.func14 (by kernel_rfl) 26 Tryz.ntmps14 rfl rfl fun w0 R => ?_
 refine Gs.slAddr (hS.h (by repeat constructor)) fun ab ao ha => ?_
 refine Gs.slAddr (hU.h (by repeat constructor)) fun ub uo hu => ?_
 refine Gsr (Las rfl rfl (Lnt (Gs.seq (Gsr (Lmv rfl rfl (Lq rfl (pu_len Tryz.underlying30 rfl) (Lmv rfl rfl (Lq rfl (pu_len Tryz.underlying30 rfl) (Lq rfl (pu_ne rfl rfl) (Lnt (Gs.cond rfl (fun hc0 => ?_) (fun hc0 => ?_))))))))))))
 ·
  have hne : ¬ xs = ys := fun e => by have := of_decide_eq_true hc0; rw [e] at this; exact this rfl
  refine Gsr (Las rfl rfl (Lnt (Gs.ret (Gr ?_))))
  exact Gs.fin1 Tryz.results14 rfl _ (⟨by rw [decide_eq_false hne], rfl⟩) (by repeat constructor)
 have hle : xs.length = ys.length := by have := of_decide_eq_false hc0; omega
 refine Gs.skip (Gn (Gs.seq (Gsr (Las rfl rfl (Lnt (Gs.block (Gs.loop1 (fun i : Nat => i ≤ xs.length ∧ xs.take i = ys.take i) (fun i => [(0, .slice a xs.length c), (1, .slice b ys.length d), (5, int i)]) (fun i => [S] ++ R) (fun i => xs.length - i) 0 (⟨Nat.zero_le _, rfl⟩) (by repeat constructor) (by repeat constructor) (fun i ⟨hi, ht⟩ => ?_))))))))
 refine Gs.seq (Gsr (Lmv rfl rfl (Lmv rfl rfl (Lq rfl (pu_len Tryz.underlying30 rfl) (Lq rfl (pu_lt rfl rfl) (Lnt (Gs.cond rfl (fun hc1 => ?_) (fun hc1 => ?_))))))))
 ·
  have hlt : i < xs.length := by have := of_decide_eq_true hc1; omega
  obtain ⟨x, hx⟩ : ∃ x, xs[i]? = some x := ⟨xs[i], by simp [hlt]⟩
  obtain ⟨y, hy⟩ : ∃ x, ys[i]? = some x := ⟨ys[i]'(by omega), by simp [← hle, hlt]⟩
  obtain rfl := ha (by rintro rfl; simp at hlt)
  obtain rfl := hu (by rintro rfl; simp at hy)
  refine Gs.skip (Gn (Gs.seq (Gs.block (Gs.seq (Gs.regD mixed (by kernel_rfl) (Rmv 0 rfl (by kernel_rfl) rfl (Rmv 1 rfl (by kernel_rfl) rfl (Rq 2 rfl (by kernel_rfl) (pu_ia se_30 rfl rfl (by omega) (by omega)) (Rr 3 rfl (by kernel_rfl) (rd_ld na_3 rfl (Rdc.el0 (hS.h (by repeat constructor)) hx rfl rfl)) ?_)))))))))
  refine Rmv 4 rfl (by kernel_rfl) rfl (Rmv 5 rfl (by kernel_rfl) rfl (Rq 6 rfl (by kernel_rfl) (pu_ia se_30 rfl rfl (by omega) (by omega)) (Rr 7 rfl (by kernel_rfl) (rd_ld na_3 rfl (Rdc.el0 (hU.h (by repeat constructor)) hy rfl rfl)) ?_)))
  refine Rq 8 rfl (by kernel_rfl) (pu_ne rfl rfl) (Rg.end (by kernel_rfl) (Gn (Gs.cond rfl (fun hc2 => ?_) (fun hc2 => ?_))))
  ·
   have hne : ¬ xs = ys := fun e => by have := of_decide_eq_true hc2; rw [e, hy] at hx; exact this (Option.some.inj hx).symm
   refine Gsr (Las rfl rfl (Lnt (Gs.ret (Gs.blk_r (Gr (Gr (Gs.blk_r (Gr ?_))))))))
   exact Gs.fin1 Tryz.results14 rfl _ (⟨by rw [decide_eq_false hne], rfl⟩) (by repeat constructor)
  have hxy : x = y := by have := of_decide_eq_false hc2; omega
  refine Gs.skip (Gs.blk_n (Gn (Gs.reg (Lmv rfl rfl (Lq rfl (by first | exact pu_addI rfl rfl rfl (by omega) (by omega) | exact pu_add rfl rfl) ?_)))))
  refine Las rfl rfl (Lnt ?_)
  exact Ag (i + 1) ⟨by omega, by rw [List.take_add_one, List.take_add_one, ht, hx, hy, hxy]⟩ (by omega)
 have hge : i = xs.length := by have := of_decide_eq_false hc1; omega
 have heq : xs = ys := by rw [hge, List.take_length, hle, List.take_length] at ht; exact ht
 refine Gs.exit (Gx (Gx (Gs.blk_hit (Gn (Gsr (Las rfl rfl (Lnt (Gs.ret ?_))))))))
 exact Gs.fin1 Tryz.results14 rfl _ (⟨by rw [decide_eq_true heq], rfl⟩) (by repeat constructor)
end Go.Proofs.YtflfhpokmidnmaaGreatDoor
namespace Go.Proofs.YtflfhpokmidnmaaGreatDoor
open Go Go.Sl Go.Gv Go.Po
set_option maxRecDepth 100000
end Go.Proofs.YtflfhpokmidnmaaGreatDoor
namespace Go.Proofs.YtflfhpokmidnmaaGreatDoor
open Go Go.Sl Go.Gv Go.Po
set_option maxRecDepth 100000
theorem cloneI_spec {S : HProp} {a : Option Addr} {c : Nat} {l : List Int} (hS : Srd S 1 intC a l) (hl : l.length ≤ 100000) :
   Ct Tryz.prog 63 [.slice a l.length c] [S] (fun v hs => ∃ a' c', v = .slice a' l.length c' ∧ hs = [S, sl 3 1 intC a' c' l]) := by
 refine Cti Tryz.func63 (by kernel_rfl) 8 Tryz.ntmps63 rfl rfl fun w0 R => ?_
 refine Gs.slAddr (hS.h (by repeat constructor)) fun ab ao ha => ?_
 refine Gsr (Las rfl rfl (Lnt (Gs.seq (Gsr (Lmv rfl rfl (Lq rfl (pu_eqL Tryz.underlying30 rfl rfl) (Lnt (Gs.cond rfl (fun hc0 => ?_) (fun hc0 => ?_)))))))))
 ·
  have hnil : l = [] := Classical.byContradiction fun h => by rw [ha h] at hc0; cases hc0
  refine Gs.slNil 3 1 intC (Gsr (Las rfl rfl (Lnt (Gs.ret (Gr ?_)))))
  exact Gs.fin1 Tryz.results63 rfl _ (⟨none, 0, by rw [hnil]; rfl, by rw [hnil]⟩) (by repeat constructor)
 refine Gs.skip (Gn (Gsr (La rfl (ac_lit encC_3 (([] : List Int)) et_30 ek_3 rfl (by repeat constructor) rfl rfl (by decide)) ?_)))
 rintro _ _ ⟨a5, rfl, rfl⟩
 refine Lmv rfl rfl (La rfl (ac_append (xs := ([] : List Int)) (ys := l) et_30 ek_3 rfl rfl (by repeat constructor) (SrcH.sl Tryz.underlying30 ek_3 (hS.h (by repeat constructor))) (by simp; omega) (by simp; omega)) ?_)
 rintro _ _ ⟨a7, c7, rfl, rfl⟩
 refine Las rfl rfl (Lnt (Gs.ret ?_))
 exact Gs.fin1 Tryz.results63 rfl _ (⟨a7, c7, rfl, rfl⟩) (by repeat constructor)
theorem cloneP_spec {S : HProp} {a : Option Addr} {c : Nat} {l : List PostV} (hS : Srd S 3 postC a l) (hl : l.length ≤ 100000) :
   Ct Tryz.prog 209 [.slice a l.length c] [S] (fun v hs => ∃ a' c', v = .slice a' l.length c' ∧ hs = [S, sl 219 3 postC a' c' l]) := by
 refine Cti Tryz.func209 (by kernel_rfl) 8 Tryz.ntmps209 rfl rfl fun w0 R => ?_
 refine Gs.slAddr (hS.h (by repeat constructor)) fun ab ao ha => ?_
 refine Gsr (Las rfl rfl (Lnt (Gs.seq (Gsr (Lmv rfl rfl (Lq rfl (pu_eqL Tryz.underlying216 rfl rfl) (Lnt (Gs.cond rfl (fun hc0 => ?_) (fun hc0 => ?_)))))))))
 ·
  have hnil : l = [] := Classical.byContradiction fun h => by rw [ha h] at hc0; cases hc0
  refine Gs.slNil 219 3 postC (Gsr (Las rfl rfl (Lnt (Gs.ret (Gr ?_)))))
  exact Gs.fin1 Tryz.results209 rfl _ (⟨none, 0, by rw [hnil]; rfl, by rw [hnil]⟩) (by repeat constructor)
 refine Gs.skip (Gn (Gsr (La rfl (ac_lit encC_219 (([] : List PostV)) et_216 ek_219 rfl (by repeat constructor) rfl rfl (by decide)) ?_)))
 rintro _ _ ⟨a5, rfl, rfl⟩
 refine Lmv rfl rfl (La rfl (ac_append (xs := ([] : List PostV)) (ys := l) et_216 ek_219 rfl rfl (by repeat constructor) (SrcH.sl Tryz.underlying216 ek_219 (hS.h (by repeat constructor))) (by simp; omega) (by simp; omega)) ?_)
 rintro _ _ ⟨a7, c7, rfl, rfl⟩
 refine Las rfl rfl (Lnt (Gs.ret ?_))
 exact Gs.fin1 Tryz.results209 rfl _ (⟨a7, c7, rfl, rfl⟩) (by repeat constructor)
end Go.Proofs.YtflfhpokmidnmaaGreatDoor
namespace Go.Sl
open Go
theorem plain_of_one {v : Value} (h : v.oneCell' = true) : plain v = true := by
 cases v <;> first | rfl | (simp [Value.oneCell'] at h)
section
variable {P : Program} {w0 : World} {n : Nat} {env : Env} {H : List HProp} {α : Type}
theorem pu_cap {d : Option Tmp} {x : Operand} {T E ty : TypeId} {pos : String} {af : Array Edge} {g : Option (Nat × Bool)} {a : Option Addr} {l c : Nat} (ht : P.underlying T = some (.slice E)) (hx : ev env x = some (.slice a l c)) :
   Pu P ⟨d, .call ⟨.builtin .cap, #[x], #[T]⟩, ty, pos, af, g⟩ env (.int .i64 c) := fun ρ w e => by
 have hu : (underlying T).run P w = .ok (.slice E) w := by simp [underlying, ht, go_sem]
 simp [execOp, resolve, invoke, builtin, Builtin.cap_, e.eval hx, hu, go_sem, goInt]
theorem SlH.cutS {sz b o : Nat} {enc : α → List Value} {xs : List α} (S : SlH w0 H sz enc (some ⟨b, o, none⟩) xs) (i c : Nat) (hi : i < c) (hc : xs.length ≤ c) : SlH w0 H sz enc (some ⟨b, o + i * sz, none⟩) (xs.drop i) := by
 have h := S.cutL i c hc
 rwa [suba_some (by omega)] at h
theorem getElem?_put {xs ys : List α} {p i : Nat} {y : α} (hp : p ≤ xs.length) (h : (xs.take p ++ ys ++ xs.drop (p + ys.length))[i]? = some y) :
   (∃ k, i = p + k ∧ ys[k]? = some y) ∨ ((i < p ∨ p + ys.length ≤ i) ∧ xs[i]? = some y) := by
 have hl : (xs.take p).length = p := by rw [List.length_take]; omega
 rcases append_getElem? h with h | ⟨k, rfl, h2⟩
 · rcases append_getElem? h with h | ⟨k, rfl, h2⟩
   · have hi := (List.getElem?_eq_some_iff.1 h).1
     rw [List.getElem?_take] at h
     split at h
     · exact .inr ⟨.inl (by omega), h⟩
     · cases h
   · exact .inl ⟨k, by rw [hl], h2⟩
 · rw [List.getElem?_drop] at h2
   rw [List.length_append, hl]
   exact .inr ⟨.inr (by omega), h2⟩
theorem ac_cp {d : Option Tmp} {x y : Operand} {T tx E sz ty : Nat} {pos : String} {af : Array Edge} {g : Option (Nat × Bool)} {enc : α → List Value} {b off o c p dl dc sl_ sc : Nat} {xs ys : List α} {asr : Option Addr} {H' : List HProp}
   (ht : P.underlying T = some (.slice E)) (hz : SZ P E sz) (e : EncOk sz enc) (hx : ev env x = some (.slice (some ⟨b, o, none⟩) dl dc)) (ho : o = off + p * sz) (hy : ev env y = some (.slice asr sl_ sc)) (hn : ys.length = Nat.min sl_ dl)
   (t : Take (sl E sz enc (some ⟨b, off, none⟩) c xs) H H') (S : SlH w0 H sz enc asr ys) (hp : p ≤ xs.length) (hc : p + ys.length ≤ c) :
   Ac P ⟨d, .call ⟨.builtin .copy, #[x, y], #[T, tx]⟩, ty, pos, af, g⟩ w0 env H (fun v H'' => v = .int .i64 ys.length ∧ H'' = sl E sz enc (some ⟨b, off, none⟩) c (xs.take p ++ ys ++ xs.drop (p + ys.length)) :: H') := Ac.of_run fun ρ w r s => by
 have st := s.take t
 have hu : (underlying T).run P w = .ok (.slice E) w := by simp [underlying, ht, go_sem]
 have hf : (Builtin.firstCells sz ys.length (.slice asr sl_ sc)).run P w = .ok (ys.flatMap enc).toArray w := by
   by_cases h0 : ys = []
   · subst h0
     cases asr <;> simp [Builtin.firstCells, loadCells, loadCellsFrom, go_sem]
   · obtain ⟨b', off', rfl, hcell⟩ := S w s h0
     refine run_firstCells_some w sz ys.length ⟨b', off', none⟩ sl_ sc _ (e.flat ys) fun j u hj => ?_
     obtain ⟨i, j', z, rfl, hj', hz', hv⟩ := e.inv ys j u hj
     have := hcell i z hz' j' u hv
     show w.cell? _ = _
     unfold Addr.add; split
     · rename_i h; rw [h] at this; simpa using this
     · exact this
 obtain ⟨h, le, h1, h2, dd, rfl, hs, hl'⟩ := st.heap
 rcases hs with ⟨h0, -, -⟩ | ⟨b', off', cells, hb, hpt, hlen, hroom, hxs⟩
 · cases h0
 · cases hb
   have s1 : Sat w0 w (cl b E cells.toList :: H') := ⟨st.os, st.tape, st.output, st.size, _, le, h1, h2, dd, rfl, by simpa [cl] using hpt, hl'⟩
   have hfit : o + (ys.flatMap enc).length ≤ cells.toList.length := by
     rw [e.flat, ho, Nat.add_assoc, ← Nat.add_mul, Array.length_toList (xs := cells)]
     exact Nat.le_trans (Nat.add_le_add_left (Nat.mul_le_mul_right _ hc) _) hroom
   obtain ⟨ds, g1, g2, g3, g4⟩ := lay_ex cells.toList o _ hfit
   obtain ⟨w', hw, s'⟩ := run_stores (P := P) _ 0 o cells.toList ds w s1 (fun v hv => plain_of_one (e.ones ys v hv)) (by simpa using g1)
   refine ⟨_, _, w', ?_, ⟨rfl, rfl⟩, s'.ent fun hh hcc => .inr ⟨b, off, ds.toArray, rfl, hcc, ?_, by simp [g2]; exact hroom, fun i u hi j v hv => ?_⟩⟩
   · show (do Pure.pure (Next.value (← Builtin.copy_ #[T, tx] ty (#[x, y].map ρ))) : Sem Next).run P w = _
     rw [show #[x, y].map ρ = #[ρ x, ρ y] by simp, r.eval hx, r.eval hy]
     refine run_v ?_
     simp only [Builtin.copy_, Builtin.lenOf, List.getElem?_toArray, List.getElem?_cons_zero, List.getElem?_cons_succ, Sem.run_bind, Sem.run_pure, hu, hz.run, Result.andThen_ok, ← hn, hf, hw]
     rfl
   · simp only [List.length_append, List.length_take, List.length_drop]; omega
   · have hjl : j < sz := by rw [← e.len u]; exact (List.getElem?_eq_some_iff.1 hv).1
     simp only [List.getElem?_toArray]
     rcases getElem?_put hp hi with ⟨k, rfl, hk⟩ | ⟨hio, hk⟩
     · have hat := e.at ys k j u v hk hv
       have := g3 _ v hat
       rwa [show o + (k * sz + j) = off + ((p + k) * sz + j) by rw [ho, Nat.add_mul]; omega] at this
     · rw [g4 _ (by
         rw [e.flat, ho]
         rcases hio with h | h
         · left
           have : (i + 1) * sz ≤ p * sz := Nat.mul_le_mul_right _ h
           rw [Nat.succ_mul] at this; omega
         · right
           have : (p + ys.length) * sz ≤ i * sz := Nat.mul_le_mul_right _ h
           rw [Nat.add_mul] at this; omega)]
       have := hxs i u hk j v hv
       simpa using this
theorem zeros_at {z : Value} {zc : List Value} (hz : z.cells = zc.toArray) (m i j : Nat) (v : Value) (hi : i < m) (hv : zc[j]? = some v) : (Builtin.zeroCells z.cells m)[i * zc.length + j]? = some v := by
 have hj := (List.getElem?_eq_some_iff.1 hv).1
 have hlt : i * zc.length + j < m * zc.length := by
   have : (i + 1) * zc.length ≤ m * zc.length := Nat.mul_le_mul_right _ hi
   rw [Nat.succ_mul] at this; omega
 simp only [Builtin.zeroCells, hz, Array.getElem?_map, List.size_toArray, Array.getElem?_range]
 rw [if_pos hlt]
 simp only [Option.map_some]
 have hm : (i * zc.length + j) % zc.length = j := by rw [Nat.mul_comm, Nat.mul_add_mod, Nat.mod_eq_of_lt hj]
 rw [hm]
 obtain ⟨h1, h2⟩ := List.getElem?_eq_some_iff.1 hv
 rw [getElem!_pos zc.toArray j (by simpa using hj)]
 simp [h2]
theorem ac_appendZ {d : Option Tmp} {x y : Operand} {T tn E sz by_ ty k c l : Nat} {kq kn : IntKind} {pos : String} {af : Array Edge} {g : Option (Nat × Bool)} {enc : α → List Value} {a : Option Addr} {xs : List α} {z0 : α}
   (et : ET P T E sz by_) (hzv : ZV P E (.agg (enc z0).toArray) ∨ ∃ u, enc z0 = [u] ∧ ZV P E u ∧ u.cells = #[u]) (htn : P.underlying tn = some (.int kn)) (e : EncOk sz enc) (hx : ev env x = some (.slice a l c)) (hl : l = xs.length) (hy : ev env y = some (.int kq (k : Int))) (S : SlH w0 H sz enc a xs)
   (h0 : 0 < k) (hs : 0 < sz) (hg : c < xs.length + k) (hb : (xs.length + k) * by_ ≤ 140737488355328) (hm : xs.length + k ≤ 9223372036854775807) :
   Ac P ⟨d, .call ⟨.builtin .append, #[x, y], #[T, tn]⟩, ty, pos, af, g⟩ w0 env H (fun v H'' => ∃ b' c', v = .slice (some ⟨b', 0, none⟩) (xs.length + k) c' ∧ xs.length + k ≤ c' ∧ H'' = sl E sz enc (some ⟨b', 0, none⟩) c' (xs ++ List.replicate k z0) :: H) := Ac.of_run fun ρ w r s => by
 obtain ⟨i, z, ht, hi, hz, rfl, rfl, hzs⟩ := et.ex
 subst hl
 have hzc : z.cells = (enc z0).toArray := by
   have hrun : (zeroValue E).run P w = .ok z w := by simp [zeroValue, typeInfo, hi, hz, go_sem]
   rcases hzv with h | ⟨u, hu, h, huc⟩
   · have h2 := h.run w
     have h3 : Result.ok z w = .ok (.agg (enc z0).toArray) w := hrun.symm.trans h2
     cases h3; rfl
   · have h2 := h.run w
     have h3 : Result.ok z w = .ok u w := hrun.symm.trans h2
     cases h3; rw [huc, hu]
 have hold : (Builtin.firstCells i.size xs.length (.slice a xs.length c)).run P w.drew = .ok (xs.flatMap enc).toArray w.drew := by
   by_cases h0 : xs = []
   · subst h0
     cases a <;> simp [Builtin.firstCells, loadCells, loadCellsFrom, go_sem]
   · obtain ⟨b', off', rfl, hcell⟩ := S w s h0
     refine run_firstCells_some w.drew i.size xs.length ⟨b', off', none⟩ xs.length c _ (e.flat xs) fun j u hj => ?_
     obtain ⟨q, j', y', rfl, hj', hz', hv⟩ := e.inv xs j u hj
     have := hcell q y' hz' j' u hv
     show w.cell? _ = _
     unfold Addr.add; split
     · rename_i h; rw [h] at this; simpa using this
     · exact this
 have hk48 : k * i.bytes ≤ 281474976710656 := by rw [Nat.add_mul] at hb; omega
 have hrun := Lib.run_append_grow_zeros w T tn ty E i z kq kn ht htn hi hz a xs.length c _ hold k h0 hs hg (by omega) hk48 (growslice_fits hg hb)
 refine ⟨.slice (some ⟨w.heap.size, 0, none⟩) (xs.length + k) (grownCap w (xs.length + k) c E), _, w.drew.alloc (.cells ((xs.flatMap enc).toArray ++ Builtin.zeroCells z.cells k ++ Builtin.zeroCells z.cells (grownCap w (xs.length + k) c E - (xs.length + k))) E), ?_, ⟨w.heap.size, grownCap w (xs.length + k) c E, rfl, grownCap_ge .., rfl⟩, ?_⟩
 · show (do pure (Next.value (← Builtin.append_ #[T, tn] ty (#[x, y].map ρ))) : Sem Next).run P w = _
   rw [show #[x, y].map ρ = #[ρ x, ρ y] by simp, r.eval hx, r.eval hy]
   exact run_v hrun
 · have hlen : (enc z0).length = i.size := e.len z0
   have hge := grownCap_ge w (xs.length + k) c E
   have sat1 : Sat w0 w.drew H := s.drew
   refine (sat1.alloc _).ent (sl_new (by simpa using hge) ?_ ?_)
   · simp only [Array.size_append, List.size_toArray, e.flat, Builtin.zeroCells, Array.size_map, Array.size_range, hzc, hlen]
     rw [← Nat.add_mul, ← Nat.add_mul]; exact Nat.mul_le_mul_right _ (by omega)
   · intro q y' hq j v hv
     have hj : j < i.size := by rw [← e.len y']; exact (List.getElem?_eq_some_iff.1 hv).1
     rcases append_getElem? hq with hq1 | ⟨m, rfl, hq2⟩
     · have hat := e.at xs q j y' v hq1 hv
       have hlt := (List.getElem?_eq_some_iff.1 hat).1
       rw [Array.getElem?_append_left (by simp only [Array.size_append, List.size_toArray]; omega), Array.getElem?_append_left (by simpa using hlt)]
       simpa using hat
     · have hm' : m < k := by have := (List.getElem?_eq_some_iff.1 hq2).1; simpa using this
       rw [List.getElem?_replicate, if_pos hm'] at hq2
       cases hq2
       have hza := zeros_at hzc k m j v hm' hv
       rw [hlen] at hza
       have hlt := (Array.getElem?_eq_some_iff.1 hza).1
       rw [Array.getElem?_append_left (by simp only [Array.size_append, List.size_toArray, e.flat]; rw [Nat.add_mul]; omega), Array.getElem?_append_right (by simp only [List.size_toArray, e.flat]; rw [Nat.add_mul]; omega)]
       simp only [List.size_toArray, e.flat]
       rw [show (xs.length + m) * i.size + j - xs.length * i.size = m * i.size + j by rw [Nat.add_mul]; omega]
       exact hza
theorem rd_overlaps {β : Type} {d : Option Tmp} {x y : Operand} {f : FuncId} {fn : Func} {T R E sz sz' ty : Nat} {ts : Array TypeId} {pos : String} {af : Array Edge} {g : Option (Nat × Bool)} {enc : α → List Value} {enc' : β → List Value} {b o off c l lc b2 o2 off2 c2 l2 lc2 : Nat} {xs : List α} {ys : List β} {H' H'' : List HProp}
   (hf : P.funcs[f]? = some fn) (hname : (fn.name == "runtime.NumGoroutine") = false) (hb : fn.body.isNone = true) (hn : Extern.findNext fn = none) (he : Extern.find fn = some (Extern.SlicesOverlaps.overlaps #[T, T] #[R]))
   (ht : P.underlying T = some (.slice E)) (hz : SZ P E sz') (hx : ev env x = some (.slice (some ⟨b, o, none⟩) l lc)) (hy : ev env y = some (.slice (some ⟨b2, o2, none⟩) l2 lc2))
   (t : Take (sl E sz enc (some ⟨b, off, none⟩) c xs) H H') (t2 : Take (sl E sz enc' (some ⟨b2, off2, none⟩) c2 ys) H' H'') (h0 : 0 < c2 * sz) :
   Rd P ⟨d, .call ⟨.value (.func f), #[x, y], ts⟩, ty, pos, af, g⟩ w0 env H (.bool false) := fun ρ w r s => by
 have st := (s.take t).takes (As := [sl E sz enc (some ⟨b, off, none⟩) c xs, sl E sz enc' (some ⟨b2, off2, none⟩) c2 ys]) (.cons .hd (.cons t2 .nil))
 obtain ⟨h, le, h1, h2, dd, rfl, hs, h3, h4, dd2, rfl, hs2, -⟩ := st.heap
 rcases hs with ⟨e0, -, -⟩ | ⟨b', off', cells, hbe, hpt, hlen, hroom, hxs⟩
 · cases e0
 rcases hs2 with ⟨e0, -, -⟩ | ⟨b2', off2', cells2, hbe2, hpt2, hlen2, hroom2, hxs2⟩
 · cases e0
 cases hbe; cases hbe2
 have k1 : w.heap[b]? = some (.cells cells E (0, 0)) := le b _ (Hp.un_left hpt.1)
 have k2 : w.heap[b2]? = some (.cells cells2 E (0, 0)) := le b2 _ (Hp.un_right dd (Hp.un_left hpt2.1))
 have hne : b ≠ b2 := by
   rintro rfl
   have q1 := hpt.1
   have q2 : (h3.un h4) b = some (.cells cells2 E (0, 0)) := Hp.un_left hpt2.1
   rcases dd b with e | e
   · rw [q1] at e; cases e
   · rw [q2] at e; cases e
 have hsh1 : w.shape? b = some (E, cells.size) := by simp [World.shape?, k1]
 have hsh2 : w.shape? b2 = some (E, cells2.size) := by simp [World.shape?, k2]
 have hrun := Lib.run_overlaps_apart (P := P) w T R E ht sz' hz.run ⟨b, o, none⟩ ⟨b2, o2, none⟩ l lc l2 lc2 hne E E cells.size cells2.size hsh1 hsh2 (by omega) (by simp [World.frozen?, k1]) (by simp [World.frozen?, k1])
 show (do let d ← resolve ρ ⟨.value (.func f), #[x, y], ts⟩ ty; invoke d.target d.args : Sem Next).run P w = _
 have h1 : resolve ρ ⟨.value (.func f), #[x, y], ts⟩ ty = (pure ⟨.fn (.func f) #[], #[.slice (some ⟨b, o, none⟩) l lc, .slice (some ⟨b2, o2, none⟩) l2 lc2]⟩ : Sem Deferred) := by
   simp only [resolve, r.eval (x := .func f) rfl, Deferred.ofValue]
   show (pure ⟨Target.fn (.func f) #[], #[] ++ #[x, y].map ρ⟩ : Sem Deferred) = _
   rw [show #[x, y].map ρ = #[ρ x, ρ y] by simp, r.eval hx, r.eval hy]; simp
 rw [h1]
 simp only [Sem.run_bind, Sem.run_pure, Result.andThen_ok, invoke]
 have := run_callFunc_extern hf hname hb hn he #[.slice (some ⟨b, o, none⟩) l lc, .slice (some ⟨b2, o2, none⟩) l2 lc2] w
 rw [hrun] at this
 simpa using this
end
end Go.Sl
namespace Go.Sl
open Go
section
variable {w0 w : World} {n : Nat} {env : Env} {L L' M : List HProp} {A B : HProp} {X : Act → World → Prop}
theorem Sat.big : Sat w0 w (Sl.big L :: M) ↔ Sat w0 w (L ++ M) := by
 constructor
 · intro s
   refine s.imp fun h => ?_
   rintro ⟨h1, h2, d, rfl, l, m⟩
   exact big_append.2 ⟨h1, h2, d, rfl, l, m⟩
 · intro s
   refine s.imp fun h x => ?_
   obtain ⟨h1, h2, d, rfl, l, m⟩ := big_append.1 x
   exact ⟨h1, h2, d, rfl, l, m⟩
theorem take_snoc : ∀ {L : List HProp}, Take A (L ++ [A]) L
 | [] => .hd
 | _ :: _ => .tl take_snoc
theorem take_mid {L2 : List HProp} : ∀ {L1 : List HProp}, Take A (L1 ++ A :: L2) (L1 ++ L2)
 | [] => .hd
 | _ :: _ => .tl take_mid
theorem take_at : ∀ {L : List HProp} {i : Nat}, L[i]? = some A → Take A L (L.eraseIdx i)
 | [], i, h => by cases h
 | B :: L, 0, h => by simp only [List.getElem?_cons_zero, Option.some.injEq] at h; subst h; exact .hd
 | B :: L, i + 1, h => .tl (take_at (by simpa using h))
theorem take_set : ∀ {L : List HProp} {i : Nat}, i < L.length → Take A (L.set i A) (L.eraseIdx i)
 | [], i, h => by simp at h
 | B :: L, 0, h => .hd
 | B :: L, i + 1, h => .tl (take_set (by simpa using h))
theorem Sat.bigTake (t : Take A L L') (s : Sat w0 w (Sl.big L :: M)) : Sat w0 w (A :: Sl.big L' :: M) := by
 have h2 : Sat w0 w (Sl.big (A :: L') :: M) := s.ent fun _ l => t.go l
 exact (Sat.two (A := A) (B := Sl.big L')).1 h2
theorem Sat.bigBack (t : Take A L L') (s : Sat w0 w (A :: Sl.big L' :: M)) : Sat w0 w (Sl.big L :: M) := by
 have h2 : Sat w0 w (Sl.big (A :: L') :: M) := Sat.two.2 s
 exact h2.ent fun _ l => t.back l
theorem Sat.bigNil (s : Sat w0 w M) : Sat w0 w (Sl.big [] :: M) := Sat.big.2 s
theorem Gs.bigTake (t : Take A L L') (g : Gs w0 n env (A :: Sl.big L' :: M) X) : Gs w0 n env (Sl.big L :: M) X := fun a w e s => g a w e (s.bigTake t)
theorem Gs.bigBack (t : Take A L L') (g : Gs w0 n env (Sl.big L :: M) X) : Gs w0 n env (A :: Sl.big L' :: M) X := fun a w e s => g a w e (s.bigBack t)
theorem Gs.bigNil (g : Gs w0 n env (Sl.big [] :: M) X) : Gs w0 n env M X := fun a w e s => g a w e s.bigNil
theorem Ct.two {P : Program} {f : FuncId} {args : List Value} {post : Value → List HProp → Prop} (c : Ct P f args [Sl.two A B] post) (h : ∀ v hs, post v hs → ∃ r, hs = Sl.two A B :: r) : Ct P f args [A, B] (fun v hs => ∃ r, post v (Sl.two A B :: r) ∧ hs = A :: B :: r) :=
 ⟨c.enters, fun w0 w R s => (c.calls w0 w R (Sat.two.2 s)).mono fun _ _ ⟨v, hs, he, hp, hsat⟩ => by
   obtain ⟨r, rfl⟩ := h v hs hp
   exact ⟨v, _, he, ⟨r, hp, rfl⟩, Sat.two.1 hsat⟩⟩
theorem Srd.two1 {α : Type} {sz : Nat} {enc : α → List Value} {a : Option Addr} {xs : List α} (S : Srd A sz enc a xs) : Srd (Sl.two A B) sz enc a xs :=
 fun w0 H H' t w s => S w0 _ _ .hd w (Sat.two.1 (s.take t))
theorem Srd.two2 {α : Type} {sz : Nat} {enc : α → List Value} {a : Option Addr} {xs : List α} (S : Srd B sz enc a xs) : Srd (Sl.two A B) sz enc a xs :=
 fun w0 H H' t w s => S w0 _ _ (.tl .hd) w (Sat.two.1 (s.take t))
theorem Srd.bigs {α : Type} {sz : Nat} {enc : α → List Value} {a : Option Addr} {xs : List α} (S : Srd A sz enc a xs) (h : A ∈ L) : Srd (Sl.big L) sz enc a xs := fun w0 H H' t w s => by
 obtain ⟨i, hi⟩ := List.mem_iff_getElem?.1 h
 exact S w0 _ _ .hd w ((s.take t).bigTake (take_at hi))
end
end Go.Sl
namespace Go.Proofs.YtflfhpokmidnmaaGreatDoor
open Go Go.Sl Go.Gv Go.Po
set_option maxRecDepth 100000
def atO (p : PostV) : HProp := sl 3 1 intC p.t.a p.t.c p.t.xs
def plO (a : Option Addr) (c : Nat) (ps : List PostV) : HProp := two (sl 219 3 postC a c ps) (big (ps.map atO))
theorem prd_plO {a : Option Addr} {c : Nat} {ps : List PostV} (h : ∀ p ∈ ps, p.t.xs.length ≤ 1000) : PRd (plO a c ps) a ps :=
 ⟨Srd.two1 Srd.own, fun p hp => ⟨Srd.two2 (Srd.bigs (A := atO p) Srd.own (List.mem_map.2 ⟨p, hp, rfl⟩)), h p hp⟩⟩
theorem own_spec {S : HProp} {a : Option Addr} {c : Nat} {ps : List PostV} (hS : PRd S a ps) (hl : ps.length ≤ 1000) :
   Ct Tryz.prog 170 [.slice a ps.length c] [S] (fun v hs => ∃ a' c' qs, v = .slice a' qs.length c' ∧ plain1 qs = plain1 ps ∧ hs = [S, plO a' c' qs]) := by
 refine Cti Tryz.func170 (by kernel_rfl) 23 Tryz.ntmps170 rfl rfl fun w0 R => ?_
 refine Gsr (Las rfl rfl (Lnt (Gsr (Lmv rfl rfl (La rfl (asC (cloneP_spec hS.1 (by omega))) ?_)))))
 rintro _ _ ⟨_, ⟨na, nc, rfl, rfl⟩, rfl⟩
 refine Las rfl rfl (Lnt (Gs.seq (Gsr (Lmv rfl rfl (Lq rfl (pu_len Tryz.underlying216 rfl) (Lmv rfl rfl (Lnil (Gs.bigNil (Gs.slAddr (xs := ps) (SlH.own (E := 219) (enc := postC) (by repeat constructor)) fun ab ao ha => ?_)))))))))
 refine Gn (Gs.block (Gs.loop1 (fun s : Nat × List PostV => s.1 ≤ ps.length ∧ plain1 s.2 = plain1 ps ∧ s.2.drop s.1 = ps.drop s.1) (fun s => [(0, .slice na ps.length nc), (7, int ps.length), (8, int s.1)]) (fun s => [S, sl 219 3 postC na nc s.2, big ((s.2.take s.1).map atO)] ++ R) (fun s => ps.length - s.1) (0, ps) (⟨Nat.zero_le _, rfl, rfl⟩) (by repeat constructor) (by repeat constructor) (fun s hs => ?_)))
 obtain ⟨i, qs⟩ := s
 obtain ⟨hi, hq, hd⟩ := hs
 dsimp only at hi hq hd ⊢
 have hql : qs.length = ps.length := by have := congrArg List.length hq; simpa using this
 refine Gsr (Lq rfl (pu_lt rfl rfl) (Lnt (Gs.seq (Gs.cond rfl (fun hc0 => ?_) (fun hc0 => ?_)))))
 ·
  have hlt : i < ps.length := by have := of_decide_eq_true hc0; omega
  obtain ⟨p, hp⟩ : ∃ x, ps[i]? = some x := ⟨ps[i], by simp [hlt]⟩
  obtain rfl := ha (by rintro rfl; simp at hlt)
  have hpq : qs[i]? = some p := by
    have := congrArg (·[0]?) hd
    simpa [List.getElem?_drop, hp] using this
  obtain ⟨hat, hatl⟩ := hS.2 p (List.mem_of_getElem? hp)
  refine Gs.skip (Gn (Gs.seq (Gs.block (Gsr (Lmv rfl rfl (Las rfl rfl (Lnt (Gs.reg (Lmv rfl rfl (Lmv rfl rfl (Lmv rfl rfl ?_)))))))))))
  refine Lmv rfl rfl (Lq rfl (pu_ia se_216 rfl rfl (by omega) (by omega)) (Lq rfl (pu_fa fa_219_1 rfl) (Lr rfl (rd_ld na_30 rfl (Rdc.elp 1 (SlH.own (xs := qs) (E := 219) (enc := postC) (sz := 3) (by repeat constructor)) hpq rfl rfl)) ?_)))
  refine La rfl (asC (cloneI_spec hat (by omega))) ?_
  rintro _ _ ⟨_, ⟨ka, kc, rfl, rfl⟩, rfl⟩
  refine Lq rfl (pu_ia se_216 rfl rfl (by omega) (by omega)) (Lq rfl (pu_fa fa_219_1 rfl) (Lac0 rfl trivial (ac_stE (enc := postC) (xs := qs) (i := i) (x0 := p) (y0 := ⟨p.k, ⟨ka, p.t.xs, kc⟩⟩) (vs := [.slice ka p.t.xs.length kc]) (fo := 2) sz_30 ek_219 rfl rfl (by repeat constructor) rfl rfl rfl hpq rfl rfl) ?_))
  rintro _ _ rfl
  refine Lnil ?_
  have hset : ((qs.set i ⟨p.k, ⟨ka, p.t.xs, kc⟩⟩).take (i + 1)).map atO = (qs.take i).map atO ++ [atO ⟨p.k, ⟨ka, p.t.xs, kc⟩⟩] := by
    rw [List.take_add_one, List.getElem?_set_self (by omega), List.take_set_of_le (Nat.le_refl _), List.map_append]; rfl
  refine Gs.takes (As := [atO ⟨p.k, ⟨ka, p.t.xs, kc⟩⟩, big ((qs.take i).map atO)]) (by repeat constructor) (Gs.bigBack take_snoc ?_)
  rw [← hset]
  have k1 : plain1 (qs.set i ⟨p.k, ⟨ka, p.t.xs, kc⟩⟩) = plain1 ps := by
    rw [← hq]
    show (qs.set i _).map PostV.p = qs.map PostV.p
    rw [List.map_set]
    refine List.ext_getElem? fun j => ?_
    by_cases hj : i = j
    · subst hj; rw [List.getElem?_set_self (by simp; omega), List.getElem?_map, hpq]; rfl
    · rw [List.getElem?_set_ne hj]
  have k2 : (qs.set i ⟨p.k, ⟨ka, p.t.xs, kc⟩⟩).drop (i + 1) = ps.drop (i + 1) := by rw [List.drop_set_of_lt (by omega), ← List.drop_drop, hd, List.drop_drop]
  refine Gs.blk_n (Gn (Gs.reg (Lq rfl (by first | exact pu_addI rfl rfl rfl (by omega) (by omega) | exact pu_add rfl rfl) ?_)))
  refine Lmv rfl rfl (Lnt ?_)
  exact Ag (i + 1, qs.set i ⟨p.k, ⟨ka, p.t.xs, kc⟩⟩) ⟨hlt, k1, k2⟩ (by show ps.length - (i + 1) < ps.length - i; omega)
 have hge : i = ps.length := by have := of_decide_eq_false hc0; omega
 rw [List.take_of_length_le (by omega)]
 refine Gs.exit (Gx (Gx (Gs.blk_hit (Gn (Gsr (Lmv rfl rfl (Las rfl rfl (Lnt (Gs.ret (Gs.takes (As := [sl 219 3 postC na nc qs, big (qs.map atO)]) (by repeat constructor) (Gs.toTwo ?_)))))))))))
 exact Gs.fin1 Tryz.results170 rfl _ (⟨na, nc, qs, by rw [hql], hq, rfl⟩) (by repeat constructor)
end Go.Proofs.YtflfhpokmidnmaaGreatDoor
namespace Go.Sl
theorem ins_grown {α : Type} {xs Z : List α} {x : α} {i : Nat} (hi : i < xs.length) (hz : Z.take i = xs.take i) (hl : Z.length = xs.length + 1) :
   (Z.take i ++ [x] ++ Z.drop (i + [x].length)).take (i + 1) ++ xs.drop i ++ (Z.take i ++ [x] ++ Z.drop (i + [x].length)).drop (i + 1 + (xs.drop i).length) = xs.take i ++ [x] ++ xs.drop i := by
 have h1 : (Z.take i ++ [x]).length = i + 1 := by simp; omega
 have h2 : (Z.take i ++ [x] ++ Z.drop (i + [x].length)).length ≤ i + 1 + (xs.drop i).length := by simp; omega
 rw [List.drop_eq_nil_of_le h2, List.append_nil]
 congr 1
 rw [List.take_append_of_le_length (by omega), List.take_of_length_le (by omega), hz]
theorem ins_room {α : Type} {xs : List α} {x : α} {i : Nat} (hi : i < xs.length) :
   (xs.take (i + 1) ++ xs.drop i ++ xs.drop (i + 1 + (xs.drop i).length)).take i ++ [x] ++ (xs.take (i + 1) ++ xs.drop i ++ xs.drop (i + 1 + (xs.drop i).length)).drop (i + [x].length) = xs.take i ++ [x] ++ xs.drop i := by
 have h0 : xs.drop (i + 1 + (xs.drop i).length) = [] := List.drop_eq_nil_of_le (by simp; omega)
 have h1 : (xs.take (i + 1)).length = i + 1 := by simp; omega
 rw [h0, List.append_nil]
 congr 1
 · congr 1
   rw [List.take_append_of_le_length (by omega), List.take_take]; congr 1; omega
 · show (xs.take (i + 1) ++ xs.drop i).drop (i + 1) = _
   rw [List.drop_append_of_le_length (by omega), List.drop_eq_nil_of_le (by omega), List.nil_append]
end Go.Sl
namespace Go.Proofs.YtflfhpokmidnmaaGreatDoor
open Go Go.Sl Go.Gv Go.Po
set_option maxRecDepth 100000
theorem insert_spec {a : Option Addr} {c vb i : Nat} {xs : List PostV} {x : PostV} (hi : i ≤ xs.length) (hl : xs.length ≤ 100000) :
   Ct Tryz.prog 174 [.slice a xs.length c, int i, .slice (some ⟨vb, 0, none⟩) 1 1] [sl 219 3 postC a c xs, sl 219 3 postC (some ⟨vb, 0, none⟩) 1 [x]]
     (fun v hs => ∃ a' c', v = .slice a' (xs.take i ++ [x] ++ xs.drop i).length c' ∧ hs = [sl 219 3 postC a' c' (xs.take i ++ [x] ++ xs.drop i)]) := by
 have hlen : (xs.take i ++ [x] ++ xs.drop i).length = xs.length + 1 := by simp; omega
 refine Cti Tryz.func174 (by kernel_rfl) 95 Tryz.ntmps174 rfl rfl fun w0 R => ?_
 refine Gs.slAddr (xs := xs) (SlH.own (E := 219) (enc := postC) (by repeat constructor)) fun ab ao ha => Gs.slLen (xs := xs) (by repeat constructor) fun hlc => ?_
 refine Gsr (Las rfl rfl (Lnt (Gsr (Lmv rfl rfl (Lmv rfl rfl (Lq rfl (pu_sliceL et_216 rfl rfl (by omega) (by omega)) (Lnt (Gsr (Lmv rfl rfl (Lq rfl (pu_len Tryz.underlying216 rfl) (Las rfl rfl ?_)))))))))))
 refine Lnt (Gs.seq (Gsr (Lmv rfl rfl (Lq rfl (pu_eq rfl rfl) (Lnt (Gs.cond_ff rfl (by decide) ?_))))))
 refine Gs.skip (Gn (Gsr (Lmv rfl rfl (Lq rfl (pu_len Tryz.underlying216 rfl) (Las rfl rfl (Lnt (Gs.seq (Gsr (Lmv rfl rfl (Lmv rfl rfl (Lq rfl (pu_eq rfl rfl) ?_)))))))))))
 refine Lnt (Gs.cond rfl (fun hc1 => ?_) (fun hc1 => ?_))
 ·
  have hie : i = xs.length := by have := of_decide_eq_true hc1; omega
  refine Gsr (Lmv rfl rfl (Lmv rfl rfl (La rfl (ac_append (xs := xs) (ys := [x]) et_216 ek_219 rfl rfl (by repeat constructor) (SrcH.sl (ys := [x]) Tryz.underlying216 ek_219 (SlH.own (xs := [x]) (E := 219) (c := 1) (by repeat constructor))) (by simp; omega) (by simp; omega)) ?_)))
  rintro _ _ ⟨a25, c25, rfl, rfl⟩
  refine Las rfl rfl (Lnil ?_)
  have hfin : xs ++ [x] = xs.take i ++ [x] ++ xs.drop i := by rw [hie]; simp
  rw [hfin]
  refine Gn (Gs.ret (Gr ?_))
  exact Gs.fin1 Tryz.results174 rfl _ (⟨a25, c25, rfl, rfl⟩) (by repeat constructor)
 have hil : i < xs.length := by have := of_decide_eq_false hc1; omega
 obtain rfl := ha (by rintro rfl; simp at hil)
 refine Gs.skip (Gn (Gs.seq (Gsr (Lmv rfl rfl (Lmv rfl rfl (Lq rfl (pu_addI (z := ((xs.length + 1 : Nat) : Int)) rfl rfl (by omega) (by omega) (by omega)) ?_))))))
 refine Lmv rfl rfl (Lq rfl (pu_cap Tryz.underlying216 rfl) (Lq rfl (pu_gt rfl rfl) (Lnt (Gs.cond rfl (fun hc2 => ?_) (fun hc2 => ?_)))))
 ·
  have hg : c < xs.length + 1 := by have := of_decide_eq_true hc2; omega
  have htl : (xs.take i).length = i := by rw [List.length_take]; omega
  have hsz : (xs.take i ++ List.replicate (xs.length + 1 - i) PostV.zero).length = xs.length + 1 := by simp; omega
  refine Gsr (Lmv rfl rfl (Lmv rfl rfl (Lq rfl (pu_sliceH et_216 rfl rfl (by omega) (by omega)) ?_)))
  rw [suba_zero, show (i : Int).toNat = i from rfl]
  refine Lmv rfl rfl (Lmv rfl rfl (Lq rfl (pu_addI (z := ((xs.length + 1 : Nat) : Int)) rfl rfl (by omega) (by omega) (by omega)) ?_))
  refine Lmv rfl rfl (Lq rfl (pu_subI (z := ((xs.length + 1 - i : Nat) : Int)) rfl rfl (by omega) (by omega) (by omega)) ?_)
  refine La rfl (ac_appendZ (xs := xs.take i) (z0 := PostV.zero) (k := xs.length + 1 - i) (enc := postC) et_216 (.inl zv_219) Tryz.underlying3 ek_219 rfl htl.symm rfl (SlH.pre (ys := xs.drop i) (by rw [List.take_append_drop]; exact SlH.own (by repeat constructor))) (by omega) (by decide) (by omega) (by omega) (by omega)) ?_
  rintro _ _ ⟨nb, nc, rfl, hnc, rfl⟩
  refine Las rfl rfl (Lnt (Gsr (Lmv rfl rfl (Lmv rfl rfl (Lq rfl (pu_sliceL et_216 rfl rfl (by omega) (by omega)) ?_)))))
  rw [show (i : Int).toNat = i from rfl, suba_some (by omega)]
  refine Lmv rfl rfl (La rfl (ac_cp (xs := xs.take i ++ List.replicate (xs.length + 1 - i) PostV.zero) (ys := [x]) (p := i) (enc := postC) Tryz.underlying216 sz_219 ek_219 rfl rfl rfl (by show 1 = min 1 _; omega) (by repeat constructor) (SlH.own (by repeat constructor)) (by omega) (by show i + 1 ≤ nc; omega)) ?_)
  rintro _ _ ⟨rfl, rfl⟩
  refine Lnt (Gs.seq (Gs.regD mixed (by kernel_rfl) (Rmv 0 rfl (by kernel_rfl) rfl (Rmv 1 rfl (by kernel_rfl) rfl (Rmv 2 rfl (by kernel_rfl) rfl (Rq 3 rfl (by kernel_rfl) (pu_addI (z := ((i + 1 : Nat) : Int)) rfl rfl (by omega) (by omega) (by omega)) ?_))))))
  refine Rq 4 rfl (by kernel_rfl) (pu_sliceL et_216 rfl rfl (by omega) (by omega)) ?_
  rw [show ((i + 1 : Nat) : Int).toNat = i + 1 from rfl, suba_some (by omega)]
  refine Rmv 5 rfl (by kernel_rfl) rfl (Rmv 6 rfl (by kernel_rfl) rfl (Rq 7 rfl (by kernel_rfl) (pu_sliceL et_216 rfl rfl (by omega) (by omega)) ?_))
  rw [show (i : Int).toNat = i from rfl, suba_some (by omega)]
  refine Rg.one (by kernel_rfl) (Stp.ac 8 rfl rfl (by kernel_rfl) trivial (ac_cp (xs := (xs.take i ++ List.replicate (xs.length + 1 - i) PostV.zero).take i ++ [x] ++ (xs.take i ++ List.replicate (xs.length + 1 - i) PostV.zero).drop (i + [x].length)) (ys := xs.drop i) (p := i + 1) (enc := postC) Tryz.underlying216 sz_219 ek_219 rfl rfl rfl (by rw [List.length_drop]; show _ = min _ _; omega) (by repeat constructor) (SlH.cutS (SlH.own (xs := xs) (E := 219) (c := c) (by repeat constructor)) i c (by omega) (by omega)) (by simp; omega) (by rw [List.length_drop]; omega))  ?_)
  rintro _ _ ⟨rfl, rfl⟩
  refine Rg.end (by kernel_rfl) (Gn (Gs.seq ?_))
  rw [ins_grown hil (by rw [List.take_append_of_le_length (by omega), List.take_take, Nat.min_self]) hsz]
  refine Gs.reg (Lmv rfl rfl (Las rfl rfl (Lnt (Gs.ret (Gr ?_)))))
  exact Gs.fin1 Tryz.results174 rfl _ (⟨some ⟨nb, 0, none⟩, nc, by rw [hlen]; congr 1; omega, rfl⟩) (by repeat constructor)
 have hg : xs.length + 1 ≤ c := by have := of_decide_eq_false hc2; omega
 refine Gs.skip (Gn (Gsr (Lmv rfl rfl (Lmv rfl rfl (Lmv rfl rfl (Lq rfl (pu_addI (z := ((xs.length + 1 : Nat) : Int)) rfl rfl (by omega) (by omega) (by omega)) ?_))))))
 refine Lq rfl (pu_sliceH et_216 rfl rfl (by omega) (by omega)) ?_
 rw [suba_zero, show ((xs.length + 1 : Nat) : Int).toNat = xs.length + 1 from rfl]
 refine Las rfl rfl (Lnt (Gs.seq (Gsr (Lmv rfl rfl (Lmv rfl rfl (Lmv rfl rfl (Lmv rfl rfl (Lq rfl (pu_addI (z := ((i + 1 : Nat) : Int)) rfl rfl (by omega) (by omega) (by omega)) ?_))))))))
 refine Lq rfl (pu_sliceL et_216 rfl rfl (by omega) (by omega)) ?_
 rw [show ((i + 1 : Nat) : Int).toNat = i + 1 from rfl, suba_some (by omega)]
 refine Lr rfl (rd_overlaps (R := 4) (xs := [x]) (ys := xs) Tryz.func210 (by kernel_rfl) (by kernel_rfl) (by kernel_rfl) (by kernel_rfl) Tryz.underlying216 sz_219 rfl rfl (by repeat constructor) (by repeat constructor) (by omega)) ?_
 refine Lq rfl (pu_not rfl) (Lnt (Gs.cond_tt rfl rfl (Gs.seq (Gs.regD mixed (by kernel_rfl) (Rmv 0 rfl (by kernel_rfl) rfl (Rmv 1 rfl (by kernel_rfl) rfl (Rmv 2 rfl (by kernel_rfl) rfl (Rq 3 rfl (by kernel_rfl) (pu_addI (z := ((i + 1 : Nat) : Int)) rfl rfl (by omega) (by omega) (by omega)) ?_))))))))
 refine Rq 4 rfl (by kernel_rfl) (pu_sliceL et_216 rfl rfl (by omega) (by omega)) ?_
 rw [show ((i + 1 : Nat) : Int).toNat = i + 1 from rfl, suba_some (by omega)]
 refine Rmv 5 rfl (by kernel_rfl) rfl (Rmv 6 rfl (by kernel_rfl) rfl (Rq 7 rfl (by kernel_rfl) (pu_sliceL et_216 rfl rfl (by omega) (by omega)) ?_))
 rw [show (i : Int).toNat = i from rfl, suba_some (by omega)]
 refine Rg.one (by kernel_rfl) (Stp.ac 8 rfl rfl (by kernel_rfl) trivial (ac_cp (xs := xs) (ys := xs.drop i) (p := i + 1) (enc := postC) Tryz.underlying216 sz_219 ek_219 rfl rfl rfl (by rw [List.length_drop]; show _ = min _ _; omega) (by repeat constructor) (SlH.cutS (SlH.own (xs := xs) (E := 219) (c := c) (by repeat constructor)) i c (by omega) (by omega)) (by omega) (by rw [List.length_drop]; omega))  ?_)
 rintro _ _ ⟨rfl, rfl⟩
 refine Rg.end (by kernel_rfl) (Gn (Gsr (Lmv rfl rfl (Lmv rfl rfl (Lq rfl (pu_sliceL et_216 rfl rfl (by omega) (by omega)) ?_)))))
 rw [show (i : Int).toNat = i from rfl, suba_some (by omega)]
 refine Lmv rfl rfl (La rfl (ac_cp (xs := xs.take (i + 1) ++ xs.drop i ++ xs.drop (i + 1 + (xs.drop i).length)) (ys := [x]) (p := i) (enc := postC) Tryz.underlying216 sz_219 ek_219 rfl rfl rfl (by show 1 = min 1 _; omega) (by repeat constructor) (SlH.own (by repeat constructor)) (by simp; omega) (by show i + 1 ≤ c; omega)) ?_)
 rintro _ _ ⟨rfl, rfl⟩
 refine Lnt (Gs.seq ?_)
 rw [ins_room hil]
 refine Gs.reg (Lmv rfl rfl (Las rfl rfl (Lnt (Gs.ret (Gr ?_)))))
 exact Gs.fin1 Tryz.results174 rfl _ (⟨some ⟨ab, ao, none⟩, c, by rw [hlen], rfl⟩) (by repeat constructor)
end Go.Proofs.YtflfhpokmidnmaaGreatDoor
namespace Go.Po
open Go Go.Sl Go.Gv
def putP (L : List PostP) (x : PostP) : List PostP :=
 if mayB L then (if risesB x.2 then L.filter (fun y => before y.1 x.1) ++ [x] ++ L.filter (fun y => before x.1 y.1) else L) else []
theorem filter_cut {L : List PostP} {f : PostP → Bool} {i : Nat} (h1 : ∀ x ∈ L.take i, f x = true) (h2 : ∀ x ∈ L.drop i, f x = false) : L.filter f = L.take i := by
 have e : L.filter f = (L.take i).filter f ++ (L.drop i).filter f := by rw [← List.filter_append, List.take_append_drop]
 rw [e, List.filter_eq_self.2 h1, List.filter_eq_nil_iff.2 (fun x hx => by rw [h2 x hx]; decide), List.append_nil]
theorem filter_cut2 {L : List PostP} {f : PostP → Bool} {i : Nat} (h1 : ∀ x ∈ L.take i, f x = false) (h2 : ∀ x ∈ L.drop i, f x = true) : L.filter f = L.drop i := by
 have e : L.filter f = (L.take i).filter f ++ (L.drop i).filter f := by rw [← List.filter_append, List.take_append_drop]
 rw [e, List.filter_eq_self.2 h2, List.filter_eq_nil_iff.2 (fun x hx => by rw [h1 x hx]; decide), List.nil_append]
theorem mem_take_at {α : Type} {L : List α} {i : Nat} {x : α} (h : x ∈ L.take i) : ∃ m, m < i ∧ L[m]? = some x := by
 obtain ⟨m, hm⟩ := List.mem_iff_getElem?.1 h
 rw [List.getElem?_take] at hm
 split at hm
 · exact ⟨m, by assumption, hm⟩
 · cases hm
theorem mem_drop_at {α : Type} {L : List α} {i : Nat} {x : α} (h : x ∈ L.drop i) : ∃ m, i ≤ m ∧ L[m]? = some x := by
 obtain ⟨m, hm⟩ := List.mem_iff_getElem?.1 h
 rw [List.getElem?_drop] at hm
 exact ⟨i + m, by omega, hm⟩
end Go.Po
namespace Go.Proofs.YtflfhpokmidnmaaGreatDoor
open Go Go.Sl Go.Gv Go.Po
set_option maxRecDepth 100000
theorem put_new {qs : List PostV} {k : Key} {i : Nat} (h : cutI qs k i) (hno : ∀ x, qs[i]? = some x → x.k ≠ k) (ha : ((qs.map PostV.p).map Prod.fst).Pairwise (fun a b => before a b = true)) (hm : mayB (plain1 qs) = true) {x : PostV} (hx : x.k = k) (hr : risesB x.t.xs = true) :
   plain1 (qs.take i ++ [x] ++ qs.drop i) = putP (plain1 qs) x.p := by
 obtain ⟨hi, hlo, hhi⟩ := h
 have e1 : (plain1 qs).filter (fun y => before y.1 x.k) = (plain1 qs).take i := filter_cut
   (fun y hy => by
     obtain ⟨m, hm, hy⟩ := mem_take_at hy
     rw [List.getElem?_map] at hy
     obtain ⟨z, hz, rfl⟩ := Option.map_eq_some_iff.1 hy
     have := hlo m z hm hz; rw [hx]; exact this)
   (fun y hy => by
     obtain ⟨m, hm, hy⟩ := mem_drop_at hy
     rw [List.getElem?_map] at hy
     obtain ⟨z, hz, rfl⟩ := Option.map_eq_some_iff.1 hy
     have := hhi m z hm hz; rw [hx]; exact this)
 have e2 : (plain1 qs).filter (fun y => before x.k y.1) = (plain1 qs).drop i := filter_cut2
   (fun y hy => by
     obtain ⟨m, hm, hy⟩ := mem_take_at hy
     rw [List.getElem?_map] at hy
     obtain ⟨z, hz, rfl⟩ := Option.map_eq_some_iff.1 hy
     have := hlo m z hm hz; rw [hx]; exact before_asymm this)
   (fun y hy => by
     obtain ⟨m, hm, hy⟩ := mem_drop_at hy
     rw [List.getElem?_map] at hy
     obtain ⟨z, hz, rfl⟩ := Option.map_eq_some_iff.1 hy
     have h1 := hhi m z hm hz
     have hne : z.k ≠ k := by
       rcases Nat.lt_or_eq_of_le hm with hlt | heq
       · intro e
         obtain ⟨u, hu⟩ : ∃ u, qs[i]? = some u := ⟨qs[i]'(by have := (List.getElem?_eq_some_iff.1 hz).1; omega), by simp⟩
         have h2 := asc_lt ha hlt hu hz
         have h3 := hhi i u (Nat.le_refl _) hu
         have h4 : before u.k z.k = true := h2
         rw [e] at h4; rw [h4] at h3; cases h3
       · exact hno z (heq ▸ hz)
     rw [hx]
     show before k z.k = true
     rcases before_total hne with h | h
     · have h5 : before z.k k = true := h
       rw [h5] at h1; cases h1
     · exact h)
 unfold putP
 rw [if_pos hm, if_pos (show risesB x.p.2 = true from hr)]
 show _ = (plain1 qs).filter (fun y => before y.1 x.k) ++ [x.p] ++ (plain1 qs).filter (fun y => before x.k y.1)
 rw [e1, e2]; simp [plain1, List.map_take, List.map_drop]
theorem put_old {qs : List PostV} {k : Key} {i : Nat} (h : cutI qs k i) {y : PostV} (hy : qs[i]? = some y) (hyk : y.k = k) (ha : ((qs.map PostV.p).map Prod.fst).Pairwise (fun a b => before a b = true)) (hm : mayB (plain1 qs) = true) {x : PostV} (hx : x.k = k) (hr : risesB x.t.xs = true) :
   plain1 (qs.set i x) = putP (plain1 qs) x.p := by
 obtain ⟨hi, hlo, hhi⟩ := h
 have hlt := (List.getElem?_eq_some_iff.1 hy).1
 have e1 : (plain1 qs).filter (fun y => before y.1 x.k) = (plain1 qs).take i := filter_cut
   (fun y hy => by
     obtain ⟨m, hm, hy⟩ := mem_take_at hy
     rw [List.getElem?_map] at hy
     obtain ⟨z, hz, rfl⟩ := Option.map_eq_some_iff.1 hy
     have := hlo m z hm hz; rw [hx]; exact this)
   (fun y hy => by
     obtain ⟨m, hm, hy⟩ := mem_drop_at hy
     rw [List.getElem?_map] at hy
     obtain ⟨z, hz, rfl⟩ := Option.map_eq_some_iff.1 hy
     have := hhi m z hm hz; rw [hx]; exact this)
 have e2 : (plain1 qs).filter (fun y => before x.k y.1) = (plain1 qs).drop (i + 1) := filter_cut2
   (fun u hu => by
     obtain ⟨m, hm, hu⟩ := mem_take_at hu
     rw [List.getElem?_map] at hu
     obtain ⟨z, hz, rfl⟩ := Option.map_eq_some_iff.1 hu
     rw [hx]
     show before k z.k = false
     rcases Nat.lt_or_eq_of_le (Nat.lt_succ_iff.1 hm) with h | h
     · exact before_asymm (hlo m z h hz)
     · subst h; rw [hy] at hz; cases hz; rw [hyk]; exact before_irr)
   (fun u hu => by
     obtain ⟨m, hm, hu⟩ := mem_drop_at hu
     rw [List.getElem?_map] at hu
     obtain ⟨z, hz, rfl⟩ := Option.map_eq_some_iff.1 hu
     have h2 := asc_lt ha (show i < m by omega) hy hz
     rw [hx]
     have h3 : before y.k z.k = true := h2
     rw [hyk] at h3; exact h3)
 unfold putP
 rw [if_pos hm, if_pos (show risesB x.p.2 = true from hr)]
 show _ = (plain1 qs).filter (fun y => before y.1 x.k) ++ [x.p] ++ (plain1 qs).filter (fun y => before x.k y.1)
 rw [e1, e2, List.set_eq_take_append_cons_drop, if_pos hlt]
 simp [plain1, List.map_take, List.map_drop]
theorem pput_spec {S : HProp} {a : Option Addr} {c : Nat} {ps : List PostV} {p : PostV} (hS : PRd S a ps) (hl : ps.length ≤ 1000) (hU : Srd S 1 intC p.t.a p.t.xs) (hul : p.t.xs.length ≤ 1000) :
   Ct Tryz.prog 138 [.slice a ps.length c, postV p] [S] (fun v hs => ∃ a' c' qs, v = .slice a' qs.length c' ∧ plain1 qs = putP (plain1 ps) p.p ∧ hs = [S, plO a' c' qs]) := by
 refine Cti Tryz.func138 (by kernel_rfl) 40 Tryz.ntmps138 rfl rfl fun w0 R => ?_
 refine Gsr (La rfl (ac_box rfl rfl) ?_)
 rintro _ _ ⟨b3, rfl, rfl⟩
 refine Las rfl rfl (Lnt (Gs.seq (Gsr (Lmv rfl rfl (La rfl (asC (may_spec hS hl)) ?_)))))
 rintro _ _ ⟨_, ⟨rfl, rfl⟩, rfl⟩
 refine Lq rfl (pu_not rfl) (Lnt (Gs.cond rfl (fun hc0 => ?_) (fun hc0 => ?_)))
 ·
  have hno := not_t hc0
  refine Gsr (Las rfl rfl (Lnt (Gs.ret (Gr (Gs.bigNil (Gs.slNil 219 3 postC (Gs.toTwo ?_)))))))
  exact Gs.fin1 Tryz.results138 rfl _ (⟨none, 0, [], rfl, by rw [putP, hno]; rfl, rfl⟩) (by repeat constructor)
 have hmay := not_f hc0
 refine Gs.skip (Gn (Gsr (Lmv rfl rfl (La rfl (asC (own_spec hS hl)) ?_))))
 rintro _ _ ⟨_, ⟨na, nc, qs, rfl, hqs, rfl⟩, rfl⟩
 refine Las rfl rfl (Lnil ?_)
 have hql : qs.length = ps.length := by have := congrArg List.length hqs; simpa using this
 have hmq : mayB (plain1 qs) = true := by rw [hqs]; exact hmay
 have hasc := may_asc hmq
 refine Gn (Gs.seq (Gsr (Lq rfl (pu_fa fa_219_1 rfl) (Lr rfl (rd_ld na_30 rfl (Rdc.cl1 (by repeat constructor) rfl)) ?_))))
 refine La rfl (asC (rises_spec hU hul)) ?_
 rintro _ _ ⟨_, ⟨rfl, rfl⟩, rfl⟩
 refine Lq rfl (pu_not rfl) (Lnt (Gs.cond rfl (fun hc1 => ?_) (fun hc1 => ?_)))
 ·
  have hnr : risesB p.p.2 = false := not_t hc1
  refine Gsr (Lmv rfl rfl (Las rfl rfl (Lnt (Gs.ret (Gr ?_)))))
  exact Gs.fin1 Tryz.results138 rfl _ (⟨na, nc, qs, rfl, by rw [putP, hmay, hnr, hqs]; rfl, rfl⟩) (by repeat constructor)
 have hri : risesB p.t.xs = true := not_f hc1
 refine Gs.skip (Gn (Gsr (Lq rfl (pu_fa fa_219_1 rfl) (Lr rfl (rd_ld na_30 rfl (Rdc.cl1 (by repeat constructor) rfl)) ?_))))
 refine La rfl (asC (cloneI_spec hU (by omega))) ?_
 rintro _ _ ⟨_, ⟨ka, kc, rfl, rfl⟩, rfl⟩
 refine Lq rfl (pu_fa fa_219_1 rfl) (Lac0 rfl trivial (ac_st sz_30 rfl rfl (by repeat constructor) rfl rfl rfl rfl) ?_)
 rintro _ _ rfl
 refine Lnt (Gsr (Lmv rfl rfl (Lq rfl (pu_fa fa_219_0 rfl) (Lr rfl (rd_lda ag_35 rfl (Rdc.cl 2 (by repeat constructor) rfl) rfl) ?_))))
 refine La rfl (asC (bsf_spec (S := plO na nc qs) (Srd.two1 Srd.own) (by omega) hasc p.k)) ?_
 rintro _ _ ⟨_, ⟨⟨i, rfl, hcut⟩, rfl⟩, rfl⟩
 refine Lmv rfl rfl (Lq rfl (pu_extract rfl rfl) (Lq rfl (pu_extract rfl rfl) (Las rfl rfl (Las rfl rfl (Lnt (Gs.seq (Gsr (Lmv rfl rfl (Lnt (Gs.cond rfl (fun hc2 => ?_) (fun hc2 => ?_)))))))))))
 ·
  obtain ⟨y, hy, hyk⟩ := Option.map_eq_some_iff.1 (of_decide_eq_true hc2)
  have hlt := (List.getElem?_eq_some_iff.1 hy).1
  have hpl := put_old hcut hy hyk hasc hmq (x := ⟨p.k, ⟨ka, p.t.xs, kc⟩⟩) rfl hri
  refine Gs.take (A := plO na nc qs) (by repeat constructor) (Gs.two ?_)
  refine Gs.slAddr (xs := qs) (SlH.own (E := 219) (enc := postC) (by repeat constructor)) fun ab ao ha => ?_
  obtain rfl := ha (by rintro rfl; simp at hy)
  refine Gsr (Lmv rfl rfl (Lmv rfl rfl (Lr rfl (rd_lda ag_219 rfl (Rdc.cl 3 (by repeat constructor) rfl) rfl) ?_)))
  refine Lq rfl (pu_ia se_216 rfl rfl (by omega) (by omega)) (Lac0 rfl trivial (ac_stE (enc := postC) (xs := qs) (i := i) (x0 := y) (y0 := ⟨p.k, ⟨ka, p.t.xs, kc⟩⟩) (vs := postC ⟨p.k, ⟨ka, p.t.xs, kc⟩⟩) (fo := 0) sz_219 ek_219 rfl rfl (by repeat constructor) rfl rfl rfl hy rfl rfl) ?_)
  rintro _ _ rfl
  refine Lnil (Gs.takes (As := [big (qs.map atO)]) (by repeat constructor) (Gs.bigTake (take_at (A := atO y) (i := i) (by simp [hy])) (Gs.drop ?_)))
  refine Gs.takes (As := [atO ⟨p.k, ⟨ka, p.t.xs, kc⟩⟩, big ((qs.map atO).eraseIdx i)]) (by repeat constructor) (Gs.bigBack (take_set (by simpa using hlt)) ?_)
  rw [← List.map_set]
  refine Gn (Gsr (Lmv rfl rfl (Las rfl rfl (Lnt (Gs.ret (Gr (Gs.takes (As := [sl 219 3 postC (some ⟨ab, ao, none⟩) nc (qs.set i ⟨p.k, ⟨ka, p.t.xs, kc⟩⟩), big ((qs.set i ⟨p.k, ⟨ka, p.t.xs, kc⟩⟩).map atO)]) (by repeat constructor) (Gs.toTwo ?_))))))))
  exact Gs.fin1 Tryz.results138 rfl _ (⟨some ⟨ab, ao, none⟩, nc, qs.set i ⟨p.k, ⟨ka, p.t.xs, kc⟩⟩, by rw [List.length_set], by rw [hpl, hqs]; rfl, rfl⟩) (by repeat constructor)
 have hpl := put_new hcut (fun x hx e => (of_decide_eq_false hc2) (by rw [hx]; exact congrArg some e)) hasc hmq (x := ⟨p.k, ⟨ka, p.t.xs, kc⟩⟩) rfl hri
 refine Gs.take (A := plO na nc qs) (by repeat constructor) (Gs.two ?_)
 refine Gs.skip (Gn (Gsr (Lmv rfl rfl (Lmv rfl rfl (Lr rfl (rd_lda ag_219 rfl (Rdc.cl 3 (by repeat constructor) rfl) rfl) ?_)))))
 refine La rfl (ac_lit encC_219 ([(⟨p.k, ⟨ka, p.t.xs, kc⟩⟩ : PostV)]) et_216 ek_219 rfl (by repeat constructor) rfl rfl (by decide)) ?_
 rintro _ _ ⟨a38, rfl, rfl⟩
 refine La rfl (asC (insert_spec (xs := qs) (x := ⟨p.k, ⟨ka, p.t.xs, kc⟩⟩) hcut.1 (by omega))) ?_
 rintro _ _ ⟨_, ⟨ia, ic, rfl, rfl⟩, rfl⟩
 refine Las rfl rfl (Lnil ?_)
 have hm2 : (qs.take i ++ [(⟨p.k, ⟨ka, p.t.xs, kc⟩⟩ : PostV)] ++ qs.drop i).map atO = (qs.take i).map atO ++ atO ⟨p.k, ⟨ka, p.t.xs, kc⟩⟩ :: (qs.drop i).map atO := by simp
 have hm3 : qs.map atO = (qs.take i).map atO ++ (qs.drop i).map atO := by rw [← List.map_append, List.take_append_drop]
 refine Gs.takes (As := [atO ⟨p.k, ⟨ka, p.t.xs, kc⟩⟩, big (qs.map atO)]) (by repeat constructor) ?_
 rw [hm3]
 refine Gs.bigBack take_mid ?_
 rw [← hm2]
 refine Gn (Gs.ret (Gs.takes (As := [sl 219 3 postC ia ic (qs.take i ++ [(⟨p.k, ⟨ka, p.t.xs, kc⟩⟩ : PostV)] ++ qs.drop i), big ((qs.take i ++ [(⟨p.k, ⟨ka, p.t.xs, kc⟩⟩ : PostV)] ++ qs.drop i).map atO)]) (by repeat constructor) (Gs.toTwo ?_)))
 exact Gs.fin1 Tryz.results138 rfl _ (⟨ia, ic, _, rfl, by rw [hpl, hqs]; rfl, rfl⟩) (by repeat constructor)
end Go.Proofs.YtflfhpokmidnmaaGreatDoor
namespace Go.Proofs.YtflfhpokmidnmaaGreatDoor
open Go Go.Sl Go.Gv Go.Po
set_option maxRecDepth 100000
end Go.Proofs.YtflfhpokmidnmaaGreatDoor
namespace Go.Proofs.YtflfhpokmidnmaaGreatDoor
open Go Go.Sl Go.Gv Go.Po
set_option maxRecDepth 100000
end Go.Proofs.YtflfhpokmidnmaaGreatDoor
namespace Go.Proofs.YtflfhpokmidnmaaGreatDoor
open Go Go.Sl Go.Gv Go.Po
set_option maxRecDepth 100000
end Go.Proofs.YtflfhpokmidnmaaGreatDoor
namespace Go.Sl
open Go Go.Kv Go.ChangeMaps
section
variable {P : Program} {n : Nat} {w0 : World} {env : Env} {H : List HProp} {κ ν : Type}
theorem mput_get [DecidableEq κ] {m : List (κ × ν)} {k : κ} {v : ν} (h : mget m k = some v) : mput m k v = m := by
 induction m with
 | nil => cases h
 | cons p m ih =>
   obtain ⟨k', v'⟩ := p
   simp only [mget] at h
   simp only [mput]
   by_cases hk : k = k'
   · simp [hk] at h; subst h; simp [hk]
   · simp only [hk, if_false] at h ⊢; rw [ih h]
theorem mput_none [DecidableEq κ] {k : κ} {v : ν} : ∀ (m : List (κ × ν)), mget m k = none → mput m k v = m ++ [(k, v)]
 | [], _ => rfl
 | (k', v') :: r, h => by
   simp only [mget] at h
   by_cases hk : k = k'
   · simp [hk] at h
   · simp only [hk, if_false] at h
     simp only [mput, hk, if_false, List.cons_append, mput_none r h]
def mpS [DecidableEq κ] (enck : κ → Value) (encv : ν → Value) (b : Nat) (m : List (κ × ν)) (z : ν) (k : κ) (st : Nat) : HProp := fun h => ∃ (ents : Array MapEntry) (clock i : Nat) (e : MapEntry), pt b (.map ents clock) h ∧ ents.toList.map (fun e => (e.key, e.val)) = (mput m k ((mget m k).getD z)).map (fun p => (enck p.1, encv p.2)) ∧ (mkeys (mput m k ((mget m k).getD z))).Nodup ∧
 (ents.toList.map (·.born)).Nodup ∧ (∀ e ∈ ents.toList, e.born < clock) ∧ ents[i]? = some e ∧ e.born = st ∧ (mput m k ((mget m k).getD z))[i]? = some (k, (mget m k).getD z) ∧ ∀ v', (mput m k ((mget m k).getD z)).set i (k, v') = mput m k v'
def LkH (P : Program) (w0 : World) (H : List HProp) (T : TypeId) (b : Nat) (key u : Value) : Prop := ∀ w, Sat w0 w H → (Instr.lookup T (.map (some b)) key false).run P w = .ok u w
theorem rd_lookE {d : Option Tmp} {x y : Operand} {T ty : TypeId} {pos : String} {af : Array Edge} {g : Option (Nat × Bool)} {b : Nat} {key u : Value} (hx : ev env x = some (.map (some b))) (hy : ev env y = some key) (l : LkH P w0 H T b key u) :
   Rd P ⟨d, .lookup T x y false, ty, pos, af, g⟩ w0 env H u := fun ρ w e s => by
 refine run_v (s := Instr.lookup T (ρ x) (ρ y) false) ?_
 rw [e.eval hx, e.eval hy]; exact l w s
theorem lk_run [DecidableEq κ] {T K E : TypeId} {enck : κ → Value} {encv : ν → Value} {b : Nat} {m : List (κ × ν)} {k : κ} {z : ν} {w : World} {ents : Array MapEntry} {clock : Nat} (ht : P.underlying T = some (.map K E)) (kt : KeyT P K enck) (zv : ZV P E (encv z))
   (hb : w.heap[b]? = some (.map ents clock)) (he : ents.toList.map (fun e => (e.key, e.val)) = m.map (fun p => (enck p.1, encv p.2))) : (Instr.lookup T (.map (some b)) (enck k) false).run P w = .ok (encv ((mget m k).getD z)) w := by
 have hu : (underlying T).run P w = .ok (.map K E) w := by simp [underlying, ht, go_sem]
 unfold Instr.lookup
 simp only [Sem.run_bind, hu, run_getMap hb, Result.andThen_ok, Sem.run_pure, kt.check, find_in kt he]
 rcases seek_spec (encv := encv) (k := k) m 0 with ⟨h1, h2⟩ | ⟨j, u, h1, h2, -⟩
 · rw [h1, h2]; simp only [Sem.run_bind, zv.run, Result.andThen_ok, Sem.run_pure]; rfl
 · rw [h1, h2]; simp only [Sem.run_pure, Result.andThen_ok]; rfl
theorem LkH.mp [DecidableEq κ] {T K E : TypeId} {enck : κ → Value} {encv : ν → Value} {b : Nat} {m : List (κ × ν)} {k : κ} {z : ν} {H' : List HProp} (ht : P.underlying T = some (.map K E)) (kt : KeyT P K enck) (zv : ZV P E (encv z)) (t : Take (mp enck encv b m) H H') :
   LkH P w0 H T b (enck k) (encv ((mget m k).getD z)) := fun w s => by
 obtain ⟨h0, ⟨ents, clock, hp, he, -⟩, s'⟩ := (s.take t).toRo
 exact lk_run ht kt zv (s'.ro b _ hp.1) he
theorem LkH.mpS [DecidableEq κ] {T K E : TypeId} {enck : κ → Value} {encv : ν → Value} {b st : Nat} {m : List (κ × ν)} {k : κ} {z : ν} {H' : List HProp} (ht : P.underlying T = some (.map K E)) (kt : KeyT P K enck) (zv : ZV P E (encv z)) (t : Take (mpS enck encv b m z k st) H H') :
   LkH P w0 H T b (enck k) (encv ((mget m k).getD z)) := fun w s => by
 obtain ⟨h0, ⟨ents, clock, i, e, hp, he, -⟩, s'⟩ := (s.take t).toRo
 have := lk_run (k := k) ht kt zv (s'.ro b _ hp.1) he
 rwa [mget_put, if_pos rfl] at this
theorem ac_mapEntry [DecidableEq κ] {d : Option Tmp} {x y : Operand} {T K E ty : TypeId} {pos : String} {af : Array Edge} {g : Option (Nat × Bool)} {enck : κ → Value} {encv : ν → Value} {b : Nat} {m : List (κ × ν)} {k : κ} {z : ν} {H' : List HProp} (ht : P.underlying T = some (.map K E)) (kt : KeyT P K enck) (zv : ZV P E (encv z))
   (hx : ev env x = some (.map (some b))) (hy : ev env y = some (enck k)) (t : Take (mp enck encv b m) H H') :
   Ac P ⟨d, .mapEntry T x y, ty, pos, af, g⟩ w0 env H (fun v H'' => ∃ st : Nat, v = .tuple #[encv ((mget m k).getD z), .int .i64 st] ∧ H'' = mpS enck encv b m z k st :: H') := Ac.of_run fun ρ w r s => by
 have st := s.take t
 obtain ⟨h, le, h1, h2, dd, rfl, ⟨ents, clock, hp, he, hn, hb1, hb2⟩, hl⟩ := st.heap
 have hb := le b _ (Hp.un_left hp.1)
 have sat : Sat w0 w (pt b (.map ents clock) :: H') := ⟨st.os, st.tape, st.output, st.size, _, le, h1, h2, dd, rfl, hp, hl⟩
 have hu : (underlying T).run P w = .ok (.map K E) w := by simp [underlying, ht, go_sem]
 rcases seek_spec (encv := encv) (k := k) m 0 with ⟨g1, g2⟩ | ⟨j, u, g1, g2, g3, g4, -⟩
 · have hput : mput m k ((mget m k).getD z) = m ++ [(k, z)] := by rw [g2]; exact mput_none m g2
   have hrun : (Instr.mapEntry T (.map (some b)) (enck k)).run P w = .ok (.tuple #[encv z, .int .i64 clock]) { w with heap := w.heap.setIfInBounds b (.map (ents.push { key := enck k, val := encv z, born := clock }) (clock + 1)) } := by
     unfold Instr.mapEntry
     simp only [Sem.run_bind, hu, run_getMap hb, Result.andThen_ok, kt.check, find_in kt he, g1, zv.run, run_setMap hb, Sem.run_pure, goInt]
   have hl' := congrArg List.length he
   simp at hl'
   refine ⟨_, _, _, run_v (s := Instr.mapEntry T (ρ x) (ρ y)) (by rw [r.eval hx, r.eval hy]; exact hrun), ⟨clock, by rw [g2]; rfl, rfl⟩, (sat.setMap (o' := .map (ents.push { key := enck k, val := encv z, born := clock }) (clock + 1))).ent fun hh hpp => ⟨_, _, m.length, { key := enck k, val := encv z, born := clock }, hpp, ?_, nodup_put hn _ _, ?_, ?_, ?_, rfl, ?_, fun v' => ?_⟩⟩
   · rw [hput]; simp [he]
   · simp only [Array.toList_push, List.map_append, List.map_cons, List.map_nil]
     rw [List.nodup_append]
     refine ⟨hb1, by simp, fun a ha c hc e => ?_⟩
     simp at hc; subst hc; subst e
     obtain ⟨e, he', hee⟩ := List.mem_map.1 ha
     have := hb2 e he'; omega
   · intro e hee
     simp only [Array.toList_push, List.mem_append, List.mem_singleton] at hee
     rcases hee with hee | rfl
     · have := hb2 e hee; omega
     · simp
   · rw [Array.getElem?_push, if_pos hl'.symm]
   · rw [hput, g2]; simp
   · rw [hput, mput_none m g2]; simp
 · rw [Nat.zero_add] at g1
   have hj : j < m.length := (List.getElem?_eq_some_iff.1 g3).1
   have hjs : j < ents.size := by have := congrArg List.length he; simp at this; omega
   have hej : (ents[j].key, ents[j].val) = (enck k, encv u) := by
     have h1 : (ents.toList.map (fun e => (e.key, e.val)))[j]? = some (ents[j].key, ents[j].val) := by simp [hjs]
     rw [he] at h1
     simp [g3] at h1
     rw [← h1.1, ← h1.2]
   simp only [Prod.mk.injEq] at hej
   have hput : mput m k ((mget m k).getD z) = m := by rw [g2]; exact mput_get g2
   have hk : (Instr.keyThatStays (((ents[j]?).map (·.key)).getD (enck k)) (enck k)).run P w = .ok (enck k) w := by
     have : (((ents[j]?).map (·.key)).getD (enck k)) = enck k := by simp [hjs, hej.1]
     rw [this]; unfold Instr.keyThatStays; rw [if_pos (kt.same k)]; rfl
   have hsame : (ents.modify j fun e => { e with key := enck k }) = ents := by
     apply Array.ext_getElem?
     intro i
     rw [Array.getElem?_modify]
     by_cases hij : j = i
     · subst hij; simp only [if_true, hjs, Array.getElem?_eq_getElem, Option.map_some]; rw [← hej.1]
     · simp [hij]
   have hrun : (Instr.mapEntry T (.map (some b)) (enck k)).run P w = .ok (.tuple #[encv u, .int .i64 ents[j].born]) { w with heap := w.heap.setIfInBounds b (.map ents clock) } := by
     unfold Instr.mapEntry
     simp only [Sem.run_bind, hu, run_getMap hb, Result.andThen_ok, kt.check, find_in kt he, g1, hk, hsame, run_setMap hb, Sem.run_pure]
     simp [hjs, goInt]
   refine ⟨_, _, _, run_v (s := Instr.mapEntry T (ρ x) (ρ y)) (by rw [r.eval hx, r.eval hy]; exact hrun), ⟨ents[j].born, by rw [g2]; rfl, rfl⟩, (sat.setMap (o' := .map ents clock)).ent fun hh hpp => ⟨_, _, j, ents[j], hpp, by rw [hput]; exact he, by rw [hput]; exact hn, hb1, hb2, by simp [hjs], rfl, by rw [hput, g2]; exact g3, fun v' => by rw [hput]; exact g4 v'⟩⟩
theorem ac_entryStore [DecidableEq κ] {d : Option Tmp} {x y u : Operand} {T ty : TypeId} {pos : String} {af : Array Edge} {g : Option (Nat × Bool)} {enck : κ → Value} {encv : ν → Value} {b st : Nat} {m : List (κ × ν)} {k : κ} {z v : ν} {H' : List HProp}
   (hx : ev env x = some (.map (some b))) (hy : ev env y = some (.int .i64 st)) (hu : ev env u = some (encv v)) (t : Take (mpS enck encv b m z k st) H H') :
   Ac P ⟨d, .entryStore T x y u, ty, pos, af, g⟩ w0 env H (fun _ H'' => H'' = mp enck encv b (mput m k v) :: H') := Ac.of_skip fun ρ w r s => by
 have s1 := s.take t
 obtain ⟨h, le, h1, h2, dd, rfl, ⟨ents, clock, i, e, hp, he, hn, hb1, hb2, hi, hst, hmi, hset⟩, hl⟩ := s1.heap
 have hb := le b _ (Hp.un_left hp.1)
 have sat : Sat w0 w (pt b (.map ents clock) :: H') := ⟨s1.os, s1.tape, s1.output, s1.size, _, le, h1, h2, dd, rfl, hp, hl⟩
 have his : i < ents.size := (Array.getElem?_eq_some_iff.1 hi).1
 have hie : ents[i] = e := (Array.getElem?_eq_some_iff.1 hi).2
 have hfind : ents.findIdx? (fun e => (e.born : Int) == st) = some i := by
   rw [Array.findIdx?_eq_some_iff_getElem]
   refine ⟨his, by rw [hie, hst]; simp, fun j hji => ?_⟩
   have hjs : j < ents.size := by omega
   intro hc
   have hc' : ents[j].born = st := by have := eq_of_beq hc; omega
   have hnd := List.pairwise_iff_getElem.1 hb1 j i (by simpa using hjs) (by simpa using his) hji
   apply hnd
   simp [hc', hie, hst]
 have hrun : (Instr.entryStore T (.map (some b)) (.int .i64 st) (encv v)).run P w = .ok () { w with heap := w.heap.setIfInBounds b (.map (ents.modify i fun e => { e with val := encv v }) clock) } := by
   unfold Instr.entryStore
   simp only [Sem.run_bind, run_getMap hb, Result.andThen_ok, asInt, asIntOf, Sem.run_pure, hfind]
   exact run_setMap hb
 refine ⟨_, _, by rw [show (execOp ρ ⟨d, .entryStore T x y u, ty, pos, af, g⟩) = (do Instr.entryStore T (ρ x) (ρ y) (ρ u); Pure.pure Next.skip : Sem Next) from rfl, r.eval hx, r.eval hy, r.eval hu]; simp only [Sem.run_bind, hrun, Result.andThen_ok]; rfl, rfl, (sat.setMap (o' := .map (ents.modify i fun e => { e with val := encv v }) clock)).ent fun hh hpp => ⟨_, _, hpp, ?_, ?_, ?_, ?_⟩⟩
 · rw [← hset v]
   apply List.ext_getElem?
   intro q
   have hei : (ents.toList[q]?).map (fun e => (e.key, e.val)) = ((mput m k ((mget m k).getD z))[q]?).map (fun p => (enck p.1, encv p.2)) := by
     have := congrArg (·[q]?) he; simpa only [List.getElem?_map] using this
   have hlen : (mput m k ((mget m k).getD z)).length = ents.size := by have := congrArg List.length he; simp at this; omega
   simp only [Array.toList_modify, List.getElem?_map, List.getElem?_modify, List.getElem?_set]
   by_cases hiq : i = q
   · subst hiq
     have hti : ents.toList[i]? = some e := by simpa using hi
     rw [hti, hmi] at hei
     simp only [Option.map_some, Option.some.injEq, Prod.mk.injEq] at hei
     rw [hti]
     simp [hlen, his, hei.1]
   · simp only [hiq, if_false]
     rw [← hei]; cases ents.toList[q]? <;> simp
 · rw [mkeys_put] at hn ⊢; exact hn
 · have : ((ents.toList.modify i fun e => { e with val := encv v }).map (·.born)) = ents.toList.map (·.born) := by
     apply List.ext_getElem?
     intro q
     simp only [List.getElem?_map, List.getElem?_modify]
     cases ents.toList[q]? with
     | none => simp
     | some e => by_cases hiq : i = q <;> simp [hiq]
   rw [Array.toList_modify, this]; exact hb1
 · intro e' hee
   rw [Array.toList_modify] at hee
   obtain ⟨q, hq⟩ := List.mem_iff_getElem?.1 hee
   rw [List.getElem?_modify] at hq
   cases hx' : ents.toList[q]? with
   | none => rw [hx'] at hq; simp at hq
   | some e0 =>
     have := hb2 e0 (List.mem_of_getElem? hx')
     rw [hx'] at hq
     by_cases hiq : i = q <;> simp [hiq] at hq <;> subst hq <;> exact this
end
end Go.Sl
namespace Go.Sl
open Go
section
variable {P : Program} {n : Nat} {w0 : World} {ops : List Oper} {Q : Exit → Act → World → Prop} {D pp rp : List Nat} {env : Env} {H : List HProp}
theorem Rg.cutAt {σ : Type} (D0 : List Nat) (E : σ → Env) (I : σ → List HProp) (rest : ∀ s, Rg P n w0 ops Q D0 [] [] (E s) (I s))
   (way : (∀ s, Rg P n w0 ops Q D0 [] [] (E s) (I s)) → Rg P n w0 ops Q D pp rp env H) : Rg P n w0 ops Q D pp rp env H := way rest
theorem Rg.join {D0 : List Nat} {env0 : Env} {H0 : List HProp} (hD : (D.all (memb · D0) && D0.all (memb · D)) = true) (hp : (pp.isEmpty && rp.isEmpty) = true) (hE : Sub env env0) (hH : Ent H H0)
   (g : Rg P n w0 ops Q D0 [] [] env0 H0) : Rg P n w0 ops Q D pp rp env H := fun ht _ _ _ => by
 rw [Bool.and_eq_true, List.all_eq_true, List.all_eq_true] at hD
 rw [Bool.and_eq_true, List.isEmpty_iff, List.isEmpty_iff] at hp
 obtain ⟨rfl, rfl⟩ := hp
 have h0 : Good n ops ([] ++ []) := ⟨fun k hk => (List.not_mem_nil hk).elim, fun k hk => (List.not_mem_nil hk).elim⟩
 have r := g ht h0 (fun k hk => (List.not_mem_nil hk).elim) (fun k hk => (List.not_mem_nil hk).elim)
 exact fun fuel listed a w h1 h2 h3 h4 h5 h6 h7 h8 => r fuel listed a w h1 (fun i hi => memb_iff.1 (hD.1 i (h2 i hi))) (fun i hi _ => h3 i (memb_iff.1 (hD.2 i hi)) (fun h => List.not_mem_nil h)) h4 h5
   (fun t v hv hm => h6 t v (hE.lk hv) hm) (hH.sat h7) h8
end
theorem Gs.cutS {P : Program} {n : Nat} {w0 : World} {env : Env} {H : List HProp} {Q : Exit → Act → World → Prop} {σ : Type} (E : σ → Env) (I : σ → List HProp) {c : Code} {K : Act → World → Prop} (g : Gs w0 n env H (c.wp P (Exit.then (fun a w => ∃ s, EnvOk n (E s) a ∧ Sat w0 w (I s)) Q))) (k : ∀ s, Gs w0 n (E s) (I s) K) :
   Gs w0 n env H (c.wp P (Exit.then K Q)) := fun a w e s => Code.wp_mono (fun ex a' w' h => by
     cases ex with
     | normal => obtain ⟨x, h1, h2⟩ := h; exact k x a' w' h1 h2
     | _ => exact h) (g a w e s)
theorem Gs.cutEndS {n : Nat} {w0 : World} {env : Env} {H : List HProp} {σ : Type} {E : σ → Env} {I : σ → List HProp} (s : σ) (hE : Sub env (E s)) (hH : Ent H (I s)) : Gs w0 n env H (fun a w => ∃ s, EnvOk n (E s) a ∧ Sat w0 w (I s)) :=
 fun _ w e t => ⟨s, e.sub hE, hH.sat t⟩
end Go.Sl
namespace Go.Ix
open Go Go.Sl Go.Gv Go.Po
abbrev strV (s : ByteArray) : Value := .string s
abbrev strC (s : ByteArray) : List Value := [.string s]
abbrev slV {α : Type} (s : SlV α) : Value := .slice s.a s.xs.length s.c
abbrev slZ {α : Type} : SlV α := ⟨none, [], 0⟩
abbrev WordP : Type := ByteArray × Int
abbrev wordC (p : WordP) : List Value := [.string p.1, int p.2]
end Go.Ix
namespace Go.Proofs.YtflfhpokmidnmaaGreatDoor
open Go Go.Sl Go.Gv Go.Kv Go.Po Go.Ix
set_option maxRecDepth 100000
theorem kt_9 : KeyT Tryz.prog 9 strV := KeyT.str Tryz.underlying9
abbrev enck_9 : ByteArray → Value := strV
abbrev encv_216 : SlV PostV → Value := slV
abbrev encv_22 : SlV ByteArray → Value := slV
abbrev encv_30 : SlV Int → Value := slV
theorem zvk_216 : ZV Tryz.prog 216 (slV (slZ : SlV PostV)) := zv_216
theorem zvk_22 : ZV Tryz.prog 22 (slV (slZ : SlV ByteArray)) := zv_22
theorem zvk_30 : ZV Tryz.prog 30 (slV (slZ : SlV Int)) := zv_30
abbrev encC_9 : ByteArray → List Value := strC
abbrev encC_214 : WordP → List Value := wordC
theorem ek_9 : EncOk 1 strC := ⟨fun _ => rfl, fun x v hv => by
 simp only [strC, List.mem_cons, List.not_mem_nil, or_false] at hv
 rcases hv with rfl; rfl⟩
theorem ek_214 : EncOk 2 wordC := ⟨fun _ => rfl, fun x v hv => by
 simp only [wordC, List.mem_cons, List.not_mem_nil, or_false] at hv
 rcases hv with rfl | rfl <;> rfl⟩
def RdL (S : HProp) (L : List (ByteArray × SlV PostV)) : Prop := ∀ p ∈ L, PRd S p.2.a p.2.xs ∧ p.2.xs.length ≤ 1000
def RdW (S : HProp) (W : List (Key × SlV ByteArray)) : Prop := ∀ p ∈ W, Srd S 1 strC p.2.a p.2.xs ∧ p.2.xs.length ≤ 1000
theorem PRd.l {S U : HProp} {a : Option Addr} {ps : List PostV} (h : PRd S a ps) : PRd (two S U) a ps := ⟨Srd.two1 h.1, fun p hp => ⟨Srd.two1 (h.2 p hp).1, (h.2 p hp).2⟩⟩
theorem PRd.r {S U : HProp} {a : Option Addr} {ps : List PostV} (h : PRd U a ps) : PRd (two S U) a ps := ⟨Srd.two2 h.1, fun p hp => ⟨Srd.two2 (h.2 p hp).1, (h.2 p hp).2⟩⟩
theorem RdL.l {S U : HProp} {L : List (ByteArray × SlV PostV)} (h : RdL S L) : RdL (two S U) L := fun p hp => ⟨(h p hp).1.l, (h p hp).2⟩
theorem RdW.l {S U : HProp} {W : List (Key × SlV ByteArray)} (h : RdW S W) : RdW (two S U) W := fun p hp => ⟨Srd.two1 (h p hp).1, (h p hp).2⟩
def ixA (x : Nat) (L : List (ByteArray × SlV PostV)) (W : List (Key × SlV ByteArray)) : HProp := fun h => ∃ q : Nat × Nat × HProp, (RdL q.2.2 L ∧ RdW q.2.2 W) ∧
 two (cl x 206 [.map (some q.1), .map (some q.2.1)]) (two (mp strV slV q.1 L) (two (mp keyV slV q.2.1 W) q.2.2)) h
section
variable {w0 : World} {n : Nat} {env : Env} {H : List HProp} {X : Act → World → Prop} {x : Nat} {L : List (ByteArray × SlV PostV)} {W : List (Key × SlV ByteArray)}
theorem Gs.ix (g : ∀ ml mw S, RdL S L → RdW S W → Gs w0 n env (cl x 206 [.map (some ml), .map (some mw)] :: mp strV slV ml L :: mp keyV slV mw W :: S :: H) X) : Gs w0 n env (ixA x L W :: H) X :=
 Gs.ex (A := fun q : Nat × Nat × HProp => fun h => (RdL q.2.2 L ∧ RdW q.2.2 W) ∧ two (cl x 206 [.map (some q.1), .map (some q.2.1)]) (two (mp strV slV q.1 L) (two (mp keyV slV q.2.1 W) q.2.2)) h)
   fun q => Gs.pure fun hq => Gs.two (fun a w e s => g q.1 q.2.1 q.2.2 hq.1 hq.2 a w e (by
     have s1 := s.take (.tl .hd)
     have s2 := Sat.two.1 s1
     have s3 := s2.take (.tl .hd)
     have s4 := Sat.two.1 s3
     exact Ent.sat (by repeat constructor) s4))
theorem Sat.ixc {w : World} {ml mw : Nat} {S : HProp} (h1 : RdL S L) (h2 : RdW S W) (s : Sat w0 w (cl x 206 [.map (some ml), .map (some mw)] :: mp strV slV ml L :: mp keyV slV mw W :: S :: H)) : Sat w0 w (ixA x L W :: H) := by
 have s1 : Sat w0 w (mp keyV slV mw W :: S :: mp strV slV ml L :: cl x 206 [.map (some ml), .map (some mw)] :: H) := Ent.sat (by repeat constructor) s
 have s2 := (Sat.two.2 s1).take (.tl .hd)
 have s3 := (Sat.two.2 s2).take (.tl .hd)
 exact (Sat.two.2 s3).ent fun h hh => ⟨(ml, mw, S), ⟨h1, h2⟩, hh⟩
theorem Gs.ixc {ml mw : Nat} {S : HProp} (h1 : RdL S L) (h2 : RdW S W) (g : Gs w0 n env (ixA x L W :: H) X) : Gs w0 n env (cl x 206 [.map (some ml), .map (some mw)] :: mp strV slV ml L :: mp keyV slV mw W :: S :: H) X :=
 fun a w e s => g a w e (Sat.ixc h1 h2 s)
end
theorem new_spec : Ct Tryz.prog 94 [] [] (fun v hs => ∃ x, v = ptr x ∧ hs = [ixA x [] []]) := by
 refine Cti Tryz.func94 (by kernel_rfl) 5 Tryz.ntmps94 rfl rfl fun w0 R => ?_
 refine Gsr (Las rfl rfl (Lnt (Gsr (La rfl (ac_mkmap enck_9 encv_216) ?_))))
 rintro _ _ ⟨m1, rfl, rfl⟩
 refine La rfl (ac_mkmap enck_35 encv_22) ?_
 rintro _ _ ⟨m2, rfl, rfl⟩
 refine Lq rfl (pu_build bd_206 (by repeat constructor) rfl) ?_
 refine La rfl (ac_box rfl rfl) ?_
 rintro _ _ ⟨b3, rfl, rfl⟩
 refine Las rfl rfl (Lnt (Gs.ret (Gs.bigNil (Gs.takes (As := [cl b3 206 [.map (some m1), .map (some m2)], mp strV slV m1 ([] : List (ByteArray × SlV PostV)), mp keyV slV m2 ([] : List (Key × SlV ByteArray)), big []]) (by repeat constructor) (Gs.ixc (L := []) (W := []) (fun _ h => by cases h) (fun _ h => by cases h) ?_)))))
 exact Gs.fin1 Tryz.results94 rfl _ (⟨b3, rfl, rfl⟩) (by repeat constructor)
def lisT (L : List (ByteArray × SlV PostV)) (w : ByteArray) : SlV PostV := (mget L w).getD slZ
theorem lisT_rd {S : HProp} {L : List (ByteArray × SlV PostV)} (h : RdL S L) (w : ByteArray) : PRd S (lisT L w).a (lisT L w).xs ∧ (lisT L w).xs.length ≤ 1000 := by
 unfold lisT
 cases hm : mget L w with
 | none => exact ⟨⟨fun _ _ _ _ _ _ hne => (hne rfl).elim, fun _ hp => by cases hp⟩, Nat.zero_le _⟩
 | some s => exact h (w, s) (mget_mem hm)
end Go.Proofs.YtflfhpokmidnmaaGreatDoor
namespace Go.Proofs.YtflfhpokmidnmaaGreatDoor
open Go Go.Sl Go.Gv Go.Kv Go.Po Go.Ix
set_option maxRecDepth 100000
end Go.Proofs.YtflfhpokmidnmaaGreatDoor
namespace Go.Proofs.YtflfhpokmidnmaaGreatDoor
open Go Go.Sl Go.Gv Go.Kv Go.Po Go.Ix
set_option maxRecDepth 100000
def slB (p q : Int × Int) : Bool := decide (p.1 < q.1) || (decide (p.1 = q.1) && decide (p.2 < q.2))
abbrev stV (p : Int × Int) : Value := .agg #[int p.1, int p.2]
theorem sl_ne {p q : Int × Int} (h : p.1 ≠ q.1) : slB p q = decide (p.1 < q.1) := by unfold slB; rw [decide_eq_false h, Bool.false_and, Bool.or_false]
theorem sl_eq {p q : Int × Int} (h : p.1 = q.1) : slB p q = decide (p.2 < q.2) := by unfold slB; rw [decide_eq_true h, h, decide_eq_false (Int.lt_irrefl _), Bool.false_or, Bool.true_and]
theorem stampLess_spec (p q : Int × Int) : Ct Tryz.prog 99 [stV p, stV q] [] (fun v hs => v = .bool (slB p q) ∧ hs = []) := by
 refine Cti Tryz.func99 (by kernel_rfl) 20 Tryz.ntmps99 rfl rfl fun w0 R => ?_
 refine Gsr (La rfl (ac_box rfl rfl) ?_)
 rintro _ _ ⟨pb, rfl, rfl⟩
 refine La rfl (ac_box rfl rfl) ?_
 rintro _ _ ⟨qb, rfl, rfl⟩
 refine Las rfl rfl (Lnt (Gs.seq (Gsr (Lq rfl (pu_fa fa_48_0 rfl) (Lr rfl (rd_ld na_3 rfl (Rdc.cl1 (by repeat constructor) rfl)) ?_)))))
 refine Lq rfl (pu_fa fa_48_0 rfl) (Lr rfl (rd_ld na_3 rfl (Rdc.cl1 (by repeat constructor) rfl)) ?_)
 refine Lq rfl (pu_ne rfl rfl) (Lnt (Gs.cond rfl (fun hc0 => ?_) (fun hc0 => ?_)))
 ·
  refine Gsr (Lq rfl (pu_fa fa_48_0 rfl) (Lr rfl (rd_ld na_3 rfl (Rdc.cl1 (by repeat constructor) rfl)) ?_))
  refine Lq rfl (pu_fa fa_48_0 rfl) (Lr rfl (rd_ld na_3 rfl (Rdc.cl1 (by repeat constructor) rfl)) ?_)
  refine Lq rfl (pu_lt rfl rfl) (Las rfl rfl (Lnt (Gs.ret (Gr ?_))))
  exact Gs.fin1 Tryz.results99 rfl _ (⟨by rw [sl_ne (of_decide_eq_true hc0)], rfl⟩) (by repeat constructor)
 refine Gs.skip (Gn (Gsr (Lq rfl (pu_fa fa_48_1 rfl) (Lr rfl (rd_ld na_3 rfl (Rdc.cl1 (by repeat constructor) rfl)) ?_))))
 refine Lq rfl (pu_fa fa_48_1 rfl) (Lr rfl (rd_ld na_3 rfl (Rdc.cl1 (by repeat constructor) rfl)) ?_)
 refine Lq rfl (pu_lt rfl rfl) (Las rfl rfl (Lnt (Gs.ret ?_)))
 exact Gs.fin1 Tryz.results99 rfl _ (⟨by rw [sl_eq (Decidable.not_not.1 (of_decide_eq_false hc0))], rfl⟩) (by repeat constructor)
end Go.Proofs.YtflfhpokmidnmaaGreatDoor
