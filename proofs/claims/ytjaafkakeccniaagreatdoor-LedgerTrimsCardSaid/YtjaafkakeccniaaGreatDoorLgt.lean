/- Walks: part.gone, ledger.lasts, Trim. -/
import Derived.Test.YtjaafkakeccniaaGreatDoorLgs
namespace Go.Sl
open Go
theorem sl_tail {α : Type} {E sz : Nat} {enc : α → List Value} {a : Option Addr} {c : Nat} {x : α} {xs : List α} : ∀ h, sl E sz enc a c (x :: xs) h → sl E sz enc (suba a 1 c sz) (c - 1) xs h := fun h y => by
  rcases y with ⟨-, e, -⟩ | ⟨b, off, cells, rfl, hp, h1, h2, h3⟩
  · cases e
  · rw [List.length_cons] at h1
    by_cases hc : c = 1
    · subst hc
      have hx : xs = [] := List.length_eq_zero_iff.1 (by omega)
      subst hx
      refine .inr ⟨b, off, cells, by simp [suba], hp, Nat.le_refl _, by simp; omega, fun i y hi => by cases hi⟩
    · refine .inr ⟨b, off + 1 * sz, cells, suba_some hc, hp, by omega, ?_, fun i y hi j v hj => ?_⟩
      · have : (c - 1) * sz + 1 * sz = c * sz := by rw [← Nat.add_mul, Nat.sub_add_cancel (by omega)]
        omega
      · have := h3 (i + 1) y (by simpa using hi) j v hj
        rw [show off + 1 * sz + (i * sz + j) = off + ((i + 1) * sz + j) by rw [Nat.add_mul]; omega]; exact this
section
variable {w0 : World} {n : Nat} {env : Env} {H H' : List HProp} {X : Act → World → Prop}
theorem Gs.slTail {α : Type} {E sz : Nat} {enc : α → List Value} {a : Option Addr} {c : Nat} {x : α} {xs : List α} (t : Take (sl E sz enc a c (x :: xs)) H H') (g : Gs w0 n env (sl E sz enc (suba a 1 c sz) (c - 1) xs :: H') X) : Gs w0 n env H X :=
  fun ac w e s => g ac w e ((s.take t).ent sl_tail)
theorem Gs.twoOpen {A B : HProp} (t : Take (Sl.two A B) H H') (g : Gs w0 n env (A :: B :: H') X) : Gs w0 n env H X := fun ac w e s => g ac w e (Sat.two.1 (s.take t))
end
end Go.Sl
namespace Go.Proofs.YtjaafkakeccniaaGreatDoor
open Go Go.Sl Go.Gv Go.Dv Go.Bst
set_option maxRecDepth 100000
/-- A number above what is retired. -/
def overAt (t w : List Int) (o : Nat) : Bool := decide (0 < t.getD o 0) && (decide (w.length ≤ o) || decide (w.getD o 0 < t.getD o 0))
def goneB (t w : List Int) : Bool := (List.range t.length).all fun o => !overAt t w o
theorem gone_not {t w : List Int} {o : Nat} (ho : o < t.length) (h : overAt t w o = true) : goneB t w = false := by
  unfold goneB; rw [List.all_eq_false]; exact ⟨o, by simpa using ho, by simp [h]⟩
theorem gone_spec {S U : HProp} {nm : ByteArray} {z : Int} {a b : Option Addr} {c d : Nat} {t w : List Int} (hS : Srd S 1 intC a t) (hU : Srd U 1 intC b w) (hl : t.length ≤ 1000) :
    Ct Tryz.prog 47 [.agg #[.string nm, int z, .slice a t.length c], .slice b w.length d] [S, U] (fun v hs => v = .bool (goneB t w) ∧ hs = [S, U]) := by
  refine Ct.intro Tryz.func47 rfl (by kernel_rfl) 32 Tryz.ntmps47 (Nat.le_of_ble_eq_true rfl) fun w0 R => ?_
  refine Gs.slAddr (hS.h (by repeat constructor)) fun ab ao ha => ?_
  refine Gs.slAddr (hU.h (by repeat constructor)) fun ub uo hu => ?_
  refine Gs.seq ?_
  refine Gs.reg ?_
  refine Go.Sl.L.ac rfl rfl trivial (ac_box rfl rfl) ?_
  rintro _ _ ⟨b2, rfl, rfl⟩
  refine Go.Sl.L.pu rfl rfl trivial (pu_assign rfl) ?_
  refine Go.Sl.L.nil ?_
  refine Gs.then_n ?_
  refine Gs.seq ?_
  refine Gs.seq ?_
  refine Gs.reg ?_
  refine Go.Sl.L.pu rfl rfl trivial (pu_fa fa_83_2 rfl) ?_
  refine Go.Sl.L.rd rfl rfl trivial (rd_ld na_23 rfl (Rdc.cl1 (by repeat constructor) rfl)) ?_
  refine Go.Sl.L.pu rfl rfl trivial (pu_len Tryz.underlying23 rfl) ?_
  refine Go.Sl.L.pu rfl rfl trivial (pu_move rfl) ?_
  refine Go.Sl.L.nil ?_
  refine Gs.then_n ?_
  refine Gs.block ?_
  refine Gs.loop1 (fun i : Nat => i ≤ t.length ∧ ((List.range i).all fun o => !overAt t w o) = true) (fun i => [(1, .slice b w.length d), (8, .slice a t.length c), (9, int t.length), (10, int i)]) (fun i => [S, U] ++ R) (fun i => t.length - i) 0 (⟨Nat.zero_le _, rfl⟩) (by repeat constructor) (by repeat constructor) (fun i ⟨hi, hall⟩ => ?_)
  refine Gs.seq ?_
  refine Gs.reg ?_
  refine Go.Sl.L.pu rfl rfl trivial (pu_lt rfl rfl) ?_
  refine Go.Sl.L.nil ?_
  refine Gs.then_n ?_
  refine Gs.seq ?_
  refine Gs.cond rfl (fun hc0 => ?_) (fun hc0 => ?_)
  · skip
    have hlt : i < t.length := by have := of_decide_eq_true hc0; omega
    obtain ⟨x, hx⟩ : ∃ x, t[i]? = some x := ⟨t[i], by simp [hlt]⟩
    obtain rfl := ha (by rintro rfl; simp at hlt)
    have hgx : t.getD i 0 = x := by rw [List.getD_eq_getElem?_getD, hx]; rfl
    have hsucc : overAt t w i = false → ((List.range (i + 1)).all fun o => !overAt t w o) = true := fun h => by rw [List.range_succ, List.all_append, hall]; simp [h]
    refine Gs.skip ?_
    refine Gs.then_n ?_
    refine Gs.seq ?_
    refine Gs.block ?_
    refine Gs.seq ?_
    refine Gs.reg ?_
    refine Go.Sl.L.pu rfl rfl trivial (pu_move rfl) ?_
    refine Go.Sl.L.pu rfl rfl trivial (pu_ia se_23 rfl rfl (by omega) (by omega)) ?_
    refine Go.Sl.L.rd rfl rfl trivial (rd_ld na_3 rfl (Rdc.el0 (hS.h (by repeat constructor)) hx rfl rfl)) ?_
    refine Go.Sl.L.pu rfl rfl trivial (pu_assign rfl) ?_
    refine Go.Sl.L.pu rfl rfl trivial (pu_assign rfl) ?_
    refine Go.Sl.L.nil ?_
    refine Gs.then_n ?_
    refine Gs.seq ?_
    refine Gs.reg ?_
    refine Go.Sl.L.pu rfl rfl trivial (pu_move rfl) ?_
    refine Go.Sl.L.pu rfl rfl trivial (pu_gt rfl rfl) ?_
    refine Go.Sl.L.puB rfl rfl trivial (pu_move rfl) (fun hg2 => ?_) (fun hg2 => ?_)
    · skip
      have h0 : decide (0 < t.getD i 0) = true := by rw [hgx]; exact hg2
      refine Go.Sl.L.pu rfl rfl ⟨_, rfl, rfl⟩ (pu_move rfl) ?_
      refine Go.Sl.L.pu rfl rfl ⟨_, rfl, rfl⟩ (pu_move rfl) ?_
      refine Go.Sl.L.pu rfl rfl ⟨_, rfl, rfl⟩ (pu_len Tryz.underlying23 rfl) ?_
      refine Go.Sl.L.pu rfl rfl ⟨_, rfl, rfl⟩ (pu_ge rfl rfl) ?_
      refine Go.Sl.L.puB rfl rfl ⟨_, rfl, rfl⟩ (pu_move rfl) (fun hg7 => ?_) (fun hg7 => ?_)
      · skip
        have hov : overAt t w i = true := by unfold overAt; rw [h0, decide_eq_true (by have := of_decide_eq_true hg7; omega : w.length ≤ i)]; rfl
        refine Go.Sl.L.off rfl rfl rfl rfl rfl rfl ?_
        refine Go.Sl.L.off rfl rfl rfl rfl rfl rfl ?_
        refine Go.Sl.L.off rfl rfl rfl rfl rfl rfl ?_
        refine Go.Sl.L.off rfl rfl rfl rfl rfl rfl ?_
        refine Go.Sl.L.off rfl rfl rfl rfl rfl rfl ?_
        refine Go.Sl.L.off rfl rfl rfl rfl rfl rfl ?_
        refine Go.Sl.L.pu rfl rfl ⟨_, rfl, rfl⟩ (by first | exact pu_pick_t rfl rfl | exact pu_pick_f rfl rfl) ?_
        refine Go.Sl.L.pu rfl rfl trivial (by first | exact pu_pick_t rfl rfl | exact pu_pick_f rfl rfl) ?_
        refine Go.Sl.L.nil ?_
        refine Gs.then_n ?_
        refine Gs.cond_t rfl ?_
        refine Gs.seq ?_
        refine Gs.reg ?_
        refine Go.Sl.L.pu rfl rfl trivial (pu_assign rfl) ?_
        refine Go.Sl.L.nil ?_
        refine Gs.then_n ?_
        refine Gs.ret ?_
        refine Gs.blk_r ?_
        refine Gs.then_r ?_
        refine Gs.then_r ?_
        refine Gs.blk_r ?_
        refine Gs.then_r ?_
        exact Gs.fin1 Tryz.results47 rfl _ (⟨by rw [gone_not hlt hov], rfl⟩) (by repeat constructor)
      · skip
        have hlw : i < w.length := by have := of_decide_eq_false hg7; omega
        obtain ⟨y, hy⟩ : ∃ x, w[i]? = some x := ⟨w[i], by simp [hlw]⟩
        obtain rfl := hu (by rintro rfl; simp at hlw)
        have hgy : w.getD i 0 = y := by rw [List.getD_eq_getElem?_getD, hy]; rfl
        refine Go.Sl.L.pu rfl rfl ⟨_, rfl, rfl⟩ (pu_move rfl) ?_
        refine Go.Sl.L.pu rfl rfl ⟨_, rfl, rfl⟩ (pu_move rfl) ?_
        refine Go.Sl.L.pu rfl rfl ⟨_, rfl, rfl⟩ (pu_move rfl) ?_
        refine Go.Sl.L.pu rfl rfl ⟨_, rfl, rfl⟩ (pu_ia se_23 rfl rfl (by omega) (by omega)) ?_
        refine Go.Sl.L.rd rfl rfl ⟨_, rfl, rfl⟩ (rd_ld na_3 rfl (Rdc.el0 (hU.h (by repeat constructor)) hy rfl rfl)) ?_
        refine Go.Sl.L.pu rfl rfl ⟨_, rfl, rfl⟩ (pu_gt rfl rfl) ?_
        refine Go.Sl.L.pu rfl rfl ⟨_, rfl, rfl⟩ (by first | exact pu_pick_t rfl rfl | exact pu_pick_f rfl rfl) ?_
        refine Go.Sl.L.pu rfl rfl trivial (by first | exact pu_pick_t rfl rfl | exact pu_pick_f rfl rfl) ?_
        refine Go.Sl.L.nil ?_
        refine Gs.then_n ?_
        refine Gs.cond rfl (fun hc1 => ?_) (fun hc1 => ?_)
        · skip
          have hov : overAt t w i = true := by unfold overAt; rw [h0, hgx, hgy, hc1, Bool.or_true]; rfl
          refine Gs.seq ?_
          refine Gs.reg ?_
          refine Go.Sl.L.pu rfl rfl trivial (pu_assign rfl) ?_
          refine Go.Sl.L.nil ?_
          refine Gs.then_n ?_
          refine Gs.ret ?_
          refine Gs.blk_r ?_
          refine Gs.then_r ?_
          refine Gs.then_r ?_
          refine Gs.blk_r ?_
          refine Gs.then_r ?_
          exact Gs.fin1 Tryz.results47 rfl _ (⟨by rw [gone_not hlt hov], rfl⟩) (by repeat constructor)
        · skip
          have hov : overAt t w i = false := by unfold overAt; rw [h0, hgx, hgy, hc1, decide_eq_false (by omega : ¬ w.length ≤ i)]; rfl
          refine Gs.skip ?_
          refine Gs.blk_n ?_
          refine Gs.then_n ?_
          refine Gs.reg ?_
          refine Go.Sl.L.pu rfl rfl trivial (by first | exact pu_addI rfl rfl rfl (by omega) (by omega) | exact pu_add rfl rfl) ?_
          refine Go.Sl.L.pu rfl rfl trivial (pu_move rfl) ?_
          refine Go.Sl.L.nil ?_
          refine Gs.then_n ?_
          exact Gs.again1 (i + 1) ⟨by omega, hsucc hov⟩ (by omega) (by repeat constructor) (by repeat constructor)
    · skip
      have hov : overAt t w i = false := by unfold overAt; rw [hgx, hg2]; rfl
      refine Go.Sl.L.off rfl rfl rfl rfl rfl rfl ?_
      refine Go.Sl.L.off rfl rfl rfl rfl rfl rfl ?_
      refine Go.Sl.L.off rfl rfl rfl rfl rfl rfl ?_
      refine Go.Sl.L.off rfl rfl rfl rfl rfl rfl ?_
      refine Go.Sl.L.off rfl rfl rfl rfl rfl rfl ?_
      refine Go.Sl.L.offU rfl rfl rfl rfl rfl ?_
      refine Go.Sl.L.offU rfl rfl rfl rfl rfl ?_
      refine Go.Sl.L.offU rfl rfl rfl rfl rfl ?_
      refine Go.Sl.L.offU rfl rfl rfl rfl rfl ?_
      refine Go.Sl.L.offU rfl rfl rfl rfl rfl ?_
      refine Go.Sl.L.offU rfl rfl rfl rfl rfl ?_
      refine Go.Sl.L.off rfl rfl rfl rfl rfl rfl ?_
      refine Go.Sl.L.pu rfl rfl trivial (by first | exact pu_pick_t rfl rfl | exact pu_pick_f rfl rfl) ?_
      refine Go.Sl.L.nil ?_
      refine Gs.then_n ?_
      refine Gs.cond_f rfl ?_
      refine Gs.skip ?_
      refine Gs.blk_n ?_
      refine Gs.then_n ?_
      refine Gs.reg ?_
      refine Go.Sl.L.pu rfl rfl trivial (by first | exact pu_addI rfl rfl rfl (by omega) (by omega) | exact pu_add rfl rfl) ?_
      refine Go.Sl.L.pu rfl rfl trivial (pu_move rfl) ?_
      refine Go.Sl.L.nil ?_
      refine Gs.then_n ?_
      exact Gs.again1 (i + 1) ⟨by omega, hsucc hov⟩ (by omega) (by repeat constructor) (by repeat constructor)
  · skip
    have hge : i = t.length := by have := of_decide_eq_false hc0; omega
    have hfin : goneB t w = true := by rw [hge] at hall; exact hall
    refine Gs.exit ?_
    refine Gs.then_x ?_
    refine Gs.then_x ?_
    refine Gs.blk_hit ?_
    refine Gs.then_n ?_
    refine Gs.seq ?_
    refine Gs.reg ?_
    refine Go.Sl.L.pu rfl rfl trivial (pu_assign rfl) ?_
    refine Go.Sl.L.nil ?_
    refine Gs.then_n ?_
    refine Gs.ret ?_
    exact Gs.fin1 Tryz.results47 rfl _ (⟨by rw [hfin], rfl⟩) (by repeat constructor)
/-- What a closure of lasts looks at. -/
abbrev lastF (q b d : Nat) (n : Int) (made : Nat) (a : Option Addr) (l c : Nat) (most : Int) (D : List Fl) : HProp := two (cl q 28 [ptr b]) (two (cl b 65 (lgC d n made a l c)) (drv d most D))
theorem lastsF_spec {q b d : Nat} {n : Int} {made : Nat} {a : Option Addr} {l c : Nat} {most : Int} {D : List Fl} (x : PaV) :
    Ct Tryz.prog 71 ([] ++ [.agg (paC x).toArray] ++ [ptr q]) [lastF q b d n made a l c most D] (fun v hs => v = .bool (decide (0 < looseD D x.p.n)) ∧ hs = [lastF q b d n made a l c most D]) := by
  refine Ct.intro Tryz.func71 rfl (by kernel_rfl) 12 Tryz.ntmps71 (Nat.le_of_ble_eq_true rfl) fun w0 R => ?_
  refine Gs.twoOpen (A := cl q 28 [ptr b]) (B := two (cl b 65 (lgC d n made a l c)) (drv d most D)) (by repeat constructor) ?_
  refine Gs.twoOpen (A := cl b 65 (lgC d n made a l c)) (B := drv d most D) (by repeat constructor) ?_
  refine Gs.seq ?_
  refine Gs.reg ?_
  refine Go.Sl.L.ac rfl rfl trivial (ac_box rfl rfl) ?_
  rintro _ _ ⟨b2, rfl, rfl⟩
  refine Go.Sl.L.pu rfl rfl trivial (pu_assign rfl) ?_
  refine Go.Sl.L.nil ?_
  refine Gs.then_n ?_
  refine Gs.seq ?_
  refine Gs.regD mixed (by kernel_rfl) ?_
  refine Rg.rd 0 rfl rfl (by kernel_rfl) trivial (rd_ld na_28 rfl (Rdc.cl1 (by repeat constructor) rfl)) ?_
  refine Rg.pu 1 rfl rfl (by kernel_rfl) trivial (by first | exact pu_nil rfl | exact pu_nilF rfl) ?_
  refine Rg.pu 2 rfl rfl (by kernel_rfl) trivial (pu_fa fa_65_0 rfl) ?_
  refine Rg.rd 3 rfl rfl (by kernel_rfl) trivial (rd_ld na_26 rfl (Rdc.cl1 (by repeat constructor) rfl)) ?_
  refine Rg.pu 4 rfl rfl (by kernel_rfl) trivial (pu_fa fa_83_0 rfl) ?_
  refine Rg.rd 5 rfl rfl (by kernel_rfl) trivial (rd_ld na_9 rfl (Rdc.cl1 (by repeat constructor) rfl)) ?_
  refine Rg.one (by kernel_rfl) (Stp.ac 6 rfl rfl (by kernel_rfl) trivial (as_call (loose_spec d most D x.p.n) (by repeat constructor) (by repeat constructor))  ?_)
  rintro _ _ ⟨_, ⟨rfl, rfl⟩, rfl⟩
  refine Rg.pu 7 rfl rfl (by kernel_rfl) trivial (pu_gt rfl rfl) ?_
  refine Rg.pu 8 rfl rfl (by kernel_rfl) trivial (pu_assign rfl) ?_
  refine Rg.end (by kernel_rfl) ?_
  refine Gs.then_n ?_
  refine Gs.ret ?_
  refine Gs.takes (As := [cl b 65 (lgC d n made a l c), drv d most D]) (by repeat constructor) (Gs.toTwo ?_)
  refine Gs.takes (As := [cl q 28 [ptr b], two (cl b 65 (lgC d n made a l c)) (drv d most D)]) (by repeat constructor) (Gs.toTwo ?_)
  exact Gs.fin1 Tryz.results71 rfl _ (⟨rfl, rfl⟩) (by repeat constructor)
theorem indexP_spec {S F : HProp} {a : Option Addr} {c q : Nat} {P : List PaV} (pred : PaV → Bool) (hS : Srd S 3 paC a P) (hl : P.length ≤ 1000)
    (hf : ∀ x : PaV, Ct Tryz.prog 71 ([] ++ [.agg (paC x).toArray] ++ [ptr q]) [F] (fun v hs => v = .bool (pred x) ∧ hs = [F])) :
    Ct Tryz.prog 98 [.slice a P.length c, .func (.func 71) #[] #[ptr q]] [S, F] (fun v hs => (∃ z : Int, v = int z ∧ decide (0 ≤ z) = P.any pred) ∧ hs = [S, F]) := by
  refine Ct.intro Tryz.func98 rfl (by kernel_rfl) 19 Tryz.ntmps98 (Nat.le_of_ble_eq_true rfl) fun w0 R => ?_
  refine Gs.slAddr (hS.h (by repeat constructor)) fun ab ao ha => ?_
  refine Gs.seq ?_
  refine Gs.reg ?_
  refine Go.Sl.L.pu rfl rfl trivial (pu_assign rfl) ?_
  refine Go.Sl.L.nil ?_
  refine Gs.then_n ?_
  refine Gs.seq ?_
  refine Gs.seq ?_
  refine Gs.reg ?_
  refine Go.Sl.L.pu rfl rfl trivial (pu_move rfl) ?_
  refine Go.Sl.L.pu rfl rfl trivial (pu_len Tryz.underlying63 rfl) ?_
  refine Go.Sl.L.pu rfl rfl trivial (pu_move rfl) ?_
  refine Go.Sl.L.nil ?_
  refine Gs.then_n ?_
  refine Gs.block ?_
  refine Gs.loop1 (fun i : Nat => i ≤ P.length ∧ (P.take i).any pred = false) (fun i => [(0, .slice a P.length c), (1, .func (.func 71) #[] #[ptr q]), (7, int P.length), (8, int i)]) (fun i => [S, F] ++ R) (fun i => P.length - i) 0 (⟨Nat.zero_le _, rfl⟩) (by repeat constructor) (by repeat constructor) (fun i ⟨hi, hno⟩ => ?_)
  refine Gs.seq ?_
  refine Gs.reg ?_
  refine Go.Sl.L.pu rfl rfl trivial (pu_lt rfl rfl) ?_
  refine Go.Sl.L.nil ?_
  refine Gs.then_n ?_
  refine Gs.seq ?_
  refine Gs.cond rfl (fun hc0 => ?_) (fun hc0 => ?_)
  · skip
    have hlt : i < P.length := by have := of_decide_eq_true hc0; omega
    obtain ⟨x, hx⟩ : ∃ x, P[i]? = some x := ⟨P[i], by simp [hlt]⟩
    obtain rfl := ha (by rintro rfl; simp at hlt)
    refine Gs.skip ?_
    refine Gs.then_n ?_
    refine Gs.seq ?_
    refine Gs.block ?_
    refine Gs.seq ?_
    refine Gs.reg ?_
    refine Go.Sl.L.pu rfl rfl trivial (pu_move rfl) ?_
    refine Go.Sl.L.pu rfl rfl trivial (pu_assign rfl) ?_
    refine Go.Sl.L.nil ?_
    refine Gs.then_n ?_
    refine Gs.seq ?_
    refine Gs.reg ?_
    refine Go.Sl.L.pu rfl rfl trivial (pu_move rfl) ?_
    refine Go.Sl.L.pu rfl rfl trivial (pu_move rfl) ?_
    refine Go.Sl.L.pu rfl rfl trivial (pu_move rfl) ?_
    refine Go.Sl.L.pu rfl rfl trivial (pu_ia se_63 rfl rfl (by omega) (by omega)) ?_
    refine Go.Sl.L.rd rfl rfl trivial (rd_lda ag_83 rfl (Rdc.el0 (hS.h (by repeat constructor)) hx rfl rfl) rfl) ?_
    refine Go.Sl.L.ac rfl rfl trivial (as_callV rfl (hf x) (by repeat constructor) (by repeat constructor)) ?_
    rintro _ _ ⟨_, ⟨rfl, rfl⟩, rfl⟩
    refine Go.Sl.L.nil ?_
    refine Gs.then_n ?_
    refine Gs.cond rfl (fun hc1 => ?_) (fun hc1 => ?_)
    · skip
      have hyes : P.any pred = true := by rw [List.any_eq_true]; exact ⟨x, List.mem_of_getElem? hx, hc1⟩
      refine Gs.seq ?_
      refine Gs.reg ?_
      refine Go.Sl.L.pu rfl rfl trivial (pu_move rfl) ?_
      refine Go.Sl.L.pu rfl rfl trivial (pu_assign rfl) ?_
      refine Go.Sl.L.nil ?_
      refine Gs.then_n ?_
      refine Gs.ret ?_
      refine Gs.blk_r ?_
      refine Gs.then_r ?_
      refine Gs.then_r ?_
      refine Gs.blk_r ?_
      refine Gs.then_r ?_
      exact Gs.fin1 Tryz.results98 rfl _ (⟨⟨_, rfl, by rw [hyes]; exact decide_eq_true (by omega)⟩, rfl⟩) (by repeat constructor)
    · skip
      refine Gs.skip ?_
      refine Gs.blk_n ?_
      refine Gs.then_n ?_
      refine Gs.reg ?_
      refine Go.Sl.L.pu rfl rfl trivial (by first | exact pu_addI rfl rfl rfl (by omega) (by omega) | exact pu_add rfl rfl) ?_
      refine Go.Sl.L.pu rfl rfl trivial (pu_move rfl) ?_
      refine Go.Sl.L.nil ?_
      refine Gs.then_n ?_
      exact Gs.again1 (i + 1) ⟨by omega, by rw [List.take_add_one, hx, List.any_append, hno]; simp [hc1]⟩ (by omega) (by repeat constructor) (by repeat constructor)
  · skip
    have hge : i = P.length := by have := of_decide_eq_false hc0; omega
    have hno2 : P.any pred = false := by rw [hge, List.take_length] at hno; exact hno
    refine Gs.exit ?_
    refine Gs.then_x ?_
    refine Gs.then_x ?_
    refine Gs.blk_hit ?_
    refine Gs.then_n ?_
    refine Gs.seq ?_
    refine Gs.reg ?_
    refine Go.Sl.L.pu rfl rfl trivial (pu_assign rfl) ?_
    refine Go.Sl.L.nil ?_
    refine Gs.then_n ?_
    refine Gs.ret ?_
    exact Gs.fin1 Tryz.results98 rfl _ (⟨⟨_, rfl, by rw [hno2]; rfl⟩, rfl⟩) (by repeat constructor)
theorem containsP_spec {S F : HProp} {a : Option Addr} {c q : Nat} {P : List PaV} (pred : PaV → Bool) (hS : Srd S 3 paC a P) (hl : P.length ≤ 1000)
    (hf : ∀ x : PaV, Ct Tryz.prog 71 ([] ++ [.agg (paC x).toArray] ++ [ptr q]) [F] (fun v hs => v = .bool (pred x) ∧ hs = [F])) :
    Ct Tryz.prog 70 [.slice a P.length c, .func (.func 71) #[] #[ptr q]] [S, F] (fun v hs => v = .bool (P.any pred) ∧ hs = [S, F]) := by
  refine Ct.intro Tryz.func70 rfl (by kernel_rfl) 9 Tryz.ntmps70 (Nat.le_of_ble_eq_true rfl) fun w0 R => ?_
  refine Gs.seq ?_
  refine Gs.reg ?_
  refine Go.Sl.L.pu rfl rfl trivial (pu_assign rfl) ?_
  refine Go.Sl.L.nil ?_
  refine Gs.then_n ?_
  refine Gs.seq ?_
  refine Gs.reg ?_
  refine Go.Sl.L.pu rfl rfl trivial (pu_move rfl) ?_
  refine Go.Sl.L.pu rfl rfl trivial (pu_move rfl) ?_
  refine Go.Sl.L.ac rfl rfl trivial (as_call (indexP_spec pred hS hl hf) (by repeat constructor) (by repeat constructor)) ?_
  rintro _ _ ⟨_, ⟨⟨z, rfl, hz⟩, rfl⟩, rfl⟩
  refine Go.Sl.L.pu rfl rfl trivial (pu_ge rfl rfl) ?_
  refine Go.Sl.L.pu rfl rfl trivial (pu_assign rfl) ?_
  refine Go.Sl.L.nil ?_
  refine Gs.then_n ?_
  refine Gs.ret ?_
  exact Gs.fin1 Tryz.results70 rfl _ (⟨by rw [← hz], rfl⟩) (by repeat constructor)
def lastsB (D : List Fl) (ps : List Pa) : Bool := !((ps.drop 1).any fun p => decide (0 < looseD D p.n))
theorem lasts_spec {b d : Nat} {n most : Int} {made : Nat} {ps : List Pa} {D : List Fl} (h1 : 1 ≤ ps.length) (hps : ps.length ≤ 1000) :
    Ct Tryz.prog 48 [ptr b] [lgr b d n ⟨made, ps⟩, drv d most D] (fun v hs => v = .bool (lastsB D ps) ∧ hs = [lgr b d n ⟨made, ps⟩, drv d most D]) := by
  refine Ct.intro Tryz.func48 rfl (by kernel_rfl) 11 Tryz.ntmps48 (Nat.le_of_ble_eq_true rfl) fun w0 R => ?_
  refine Gs.lgOpen (b := b) (d := d) (n := n) (made := made) (ps := ps) (by repeat constructor) fun pa pc P hP => ?_
  have hPl : P.length = ps.length := by rw [← hP, List.length_map]
  have hany : (P.drop 1).any (fun x => decide (0 < looseD D x.p.n)) = (ps.drop 1).any fun p => decide (0 < looseD D p.n) := by
    rw [← hP, ← List.map_drop, List.any_map]; rfl
  have hdl : (P.drop 1).length = P.length - 1 := List.length_drop ..
  refine Gs.slLen (E := 83) (sz := 3) (enc := paC) (a := pa) (c := pc) (xs := P) (by repeat constructor) fun hpc => ?_
  refine Gs.seq ?_
  refine Gs.reg ?_
  refine Go.Sl.L.ac rfl rfl trivial (ac_box rfl rfl) ?_
  rintro _ _ ⟨q, rfl, rfl⟩
  refine Go.Sl.L.pu rfl rfl trivial (pu_assign rfl) ?_
  refine Go.Sl.L.nil ?_
  refine Gs.then_n ?_
  refine Gs.seq ?_
  refine Gs.reg ?_
  refine Go.Sl.L.rd rfl rfl trivial (rd_ld na_28 rfl (Rdc.cl1 (by repeat constructor) rfl)) ?_
  refine Go.Sl.L.pu rfl rfl trivial (by first | exact pu_nil rfl | exact pu_nilF rfl) ?_
  refine Go.Sl.L.pu rfl rfl trivial (pu_fa fa_65_3 rfl) ?_
  refine Go.Sl.L.rd rfl rfl trivial (rd_ld na_63 rfl (Rdc.cl1 (by repeat constructor) rfl)) ?_
  refine Go.Sl.L.pu rfl rfl trivial (pu_sliceL et_63 rfl rfl (by omega) (by omega)) ?_
  rw [show (.slice (suba pa (1 : Int).toNat pc 3) (P.length - (1 : Int).toNat) (pc - (1 : Int).toNat) : Value) = .slice (suba pa 1 pc 3) (P.drop 1).length (pc - 1) by rw [hdl]; rfl]
  refine Go.Sl.L.pu rfl rfl trivial (pu_func (by repeat constructor) (by repeat constructor)) ?_
  refine Gs.takes (As := [cl b 65 (lgC d n made pa P.length pc), drv d most D]) (by repeat constructor) (Gs.toTwo ?_)
  refine Gs.takes (As := [cl q 28 [ptr b], two (cl b 65 (lgC d n made pa P.length pc)) (drv d most D)]) (by repeat constructor) (Gs.toTwo ?_)
  refine Go.Sl.L.ac rfl rfl trivial (as_call (containsP_spec (S := sl 83 3 paC pa pc P) (F := lastF q b d n made pa P.length pc most D) (P := P.drop 1) (fun x => decide (0 < looseD D x.p.n)) (Srd.own.cutL 1 pc hpc) (by omega) (fun x => lastsF_spec x)) (by repeat constructor) (by repeat constructor)) ?_
  rintro _ _ ⟨_, ⟨rfl, rfl⟩, rfl⟩
  refine Go.Sl.L.pu rfl rfl trivial (pu_not rfl) ?_
  refine Go.Sl.L.pu rfl rfl trivial (pu_assign rfl) ?_
  refine Go.Sl.L.nil ?_
  refine Gs.then_n ?_
  refine Gs.ret ?_
  refine Gs.twoOpen (A := cl q 28 [ptr b]) (B := two (cl b 65 (lgC d n made pa P.length pc)) (drv d most D)) (by repeat constructor) ?_
  refine Gs.twoOpen (A := cl b 65 (lgC d n made pa P.length pc)) (B := drv d most D) (by repeat constructor) ?_
  refine Gs.lgClose (b := b) (d := d) (n := n) (made := made) (ps := ps) (P := P) (a := pa) (c := pc) (by repeat constructor) rfl hP ?_
  exact Gs.fin1 Tryz.results48 rfl _ (⟨by rw [hany]; rfl, rfl⟩) (by repeat constructor)
/-- What a trimming leaves. -/
structure TOut where
  k : Nat
  ps : List Pa
  D : List Fl
def trimL (w : List Int) : List Pa → List Fl → Nat → TOut
  | p :: q :: ps, D, k => if goneB p.t w && lastsB D (p :: q :: ps) then trimL w (q :: ps) (del D p.n) (k + 1) else ⟨k, p :: q :: ps, D⟩
  | ps, D, k => ⟨k, ps, D⟩
end Go.Proofs.YtjaafkakeccniaaGreatDoor
