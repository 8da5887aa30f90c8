/- Walks: grapevinelaw13.DescentSteps, DescentAdds. -/
import Derived.Test.YthlnjkfahmebjaaDoorLaw13b
namespace Go.Proofs.YthlnjkfahmebjaaDoor
open Go Go.Sl Go.Gv Go.Kv
set_option maxRecDepth 100000
/-- The parts that differ, as the law counts them. -/
def goB (A B : List Rec) (p : Part) : Bool := thereB p.o p.l p.i && (unl A B p && decide (p.l < 5))
theorem goB_yes {A B : List Rec} {p : Part} (h : goB A B p = true) : stepP A B p = (partsK p 4).filter (unl A B) := by
  simp only [goB, Bool.and_eq_true, decide_eq_true_eq] at h
  exact if_pos ⟨h.2.2, h.2.1⟩
theorem goB_no {A B : List Rec} {p : Part} (h : goB A B p = false) : stepP A B p = [] := by
  refine if_neg fun ⟨h1, h2⟩ => ?_
  simp [goB, unl_there h2, h1, h2] at h
theorem filter_t {p : Part} {A B : List Rec} {j : Nat} (h : unl A B ⟨p.o, p.l + 1, 4 * p.i + j⟩ = true) : (partsK p (j + 1)).filter (unl A B) = (partsK p j).filter (unl A B) ++ [⟨p.o, p.l + 1, 4 * p.i + j⟩] := by
  rw [partsK_succ, List.filter_append]; simp [h]
theorem filter_f {p : Part} {A B : List Rec} {j : Nat} (h : unl A B ⟨p.o, p.l + 1, 4 * p.i + j⟩ = false) : (partsK p (j + 1)).filter (unl A B) = (partsK p j).filter (unl A B) := by
  rw [partsK_succ, List.filter_append]; simp [h]
theorem steps_spec {h0 : Hp} (T : Tabs h0) {a b : Option Addr} {c d : Nat} {xs ys : List Rec} (hx : slR h0 5 recC a xs) (hy : slR h0 5 recC b ys) (hxl : xs.length ≤ 9223372036854775807) (hyl : ys.length ≤ 9223372036854775807) (p : Part) :
    Ct Tryd.prog 4 [.slice a xs.length c, .slice b ys.length d, partV p] [ro h0] (fun v hs => v = .bool true ∧ hs = [ro h0]) := by
  refine Ct.intro Tryd.func4 rfl (by kernel_rfl) 157 Tryd.ntmps4 (Nat.le_of_ble_eq_true rfl) fun w0 R => ?_
  refine Gs.seq ?_
  refine Gs.reg ?_
  refine Go.Sl.L.ac rfl rfl trivial (ac_box rfl rfl) ?_
  rintro _ _ ⟨pb, rfl, rfl⟩
  refine Go.Sl.L.pu rfl rfl trivial (pu_assign rfl) ?_
  refine Go.Sl.L.nil ?_
  refine Gs.then_n ?_
  refine Gs.seq ?_
  refine Gs.seq ?_
  refine Gs.reg ?_
  refine Go.Sl.L.pu rfl rfl trivial (pu_move rfl) ?_
  refine Go.Sl.L.ac rfl rfl trivial (as_call (greatRecords_spec (Srd.ro hx) hxl 20) (by repeat constructor) (by repeat constructor)) ?_
  rintro _ _ ⟨_, ⟨⟨g1, rfl, hg1⟩, rfl⟩, rfl⟩
  refine Go.Sl.L.puB rfl rfl trivial (pu_move rfl) (fun hg2 => ?_) (fun hg2 => ?_)
  · skip
    refine Go.Sl.L.off rfl rfl rfl rfl rfl rfl ?_
    refine Go.Sl.L.off rfl rfl rfl rfl rfl rfl ?_
    refine Go.Sl.L.pu rfl rfl trivial (by first | exact pu_pick_t rfl rfl | exact pu_pick_f rfl rfl) ?_
    refine Go.Sl.L.nil ?_
    refine Gs.then_n ?_
    refine Gs.cond_t rfl ?_
    refine Gs.seq ?_
    refine Gs.reg ?_
    refine Go.Sl.L.ac rfl rfl trivial (as_call (awake_spec T) (by repeat constructor) (by repeat constructor)) ?_
    rintro _ _ ⟨_, ⟨rfl, rfl⟩, rfl⟩
    refine Go.Sl.L.pu rfl rfl trivial (pu_assign rfl) ?_
    refine Go.Sl.L.nil ?_
    refine Gs.then_n ?_
    refine Gs.ret ?_
    refine Gs.then_r ?_
    exact Gs.fin1 Tryd.results4 rfl _ (⟨rfl, rfl⟩) (by repeat constructor)
  · skip
    refine Go.Sl.L.pu rfl rfl ⟨_, rfl, rfl⟩ (pu_move rfl) ?_
    refine Go.Sl.L.ac rfl rfl ⟨_, rfl, rfl⟩ (as_call (greatRecords_spec (Srd.ro hy) hyl 20) (by repeat constructor) (by repeat constructor)) ?_
    rintro _ _ ⟨_, ⟨⟨g2, rfl, hg2'⟩, rfl⟩, rfl⟩
    refine Go.Sl.L.pu rfl rfl trivial (by first | exact pu_pick_t rfl rfl | exact pu_pick_f rfl rfl) ?_
    refine Go.Sl.L.nil ?_
    refine Gs.then_n ?_
    refine Gs.cond rfl (fun hc0 => ?_) (fun hc0 => ?_)
    · skip
      refine Gs.seq ?_
      refine Gs.reg ?_
      refine Go.Sl.L.ac rfl rfl trivial (as_call (awake_spec T) (by repeat constructor) (by repeat constructor)) ?_
      rintro _ _ ⟨_, ⟨rfl, rfl⟩, rfl⟩
      refine Go.Sl.L.pu rfl rfl trivial (pu_assign rfl) ?_
      refine Go.Sl.L.nil ?_
      refine Gs.then_n ?_
      refine Gs.ret ?_
      refine Gs.then_r ?_
      exact Gs.fin1 Tryd.results4 rfl _ (⟨rfl, rfl⟩) (by repeat constructor)
    · skip
      have hxs : xs.length ≤ 25 := by have := hg1 hg2; omega
      have hys : ys.length ≤ 25 := by have := hg2' hc0; omega
      obtain ⟨A, hAe⟩ : ∃ A, A = putAll [] xs := ⟨_, rfl⟩
      obtain ⟨B, hBe⟩ : ∃ B, B = putAll [] ys := ⟨_, rfl⟩
      have hA : TOk A := hAe ▸ TOk.nil.putAll xs
      have hB : TOk B := hBe ▸ TOk.nil.putAll ys
      have hAl : A.length ≤ 25 := by rw [hAe]; have := (putAll_length [] xs).2; simp at this; omega
      have hBl : B.length ≤ 25 := by rw [hBe]; have := (putAll_length [] ys).2; simp at this; omega
      refine Gs.skip ?_
      refine Gs.then_n ?_
      refine Gs.seq ?_
      refine Gs.reg ?_
      refine Go.Sl.L.pu rfl rfl trivial (pu_move rfl) ?_
      refine Go.Sl.L.ac rfl rfl trivial (as_call (both_spec T hx hxs) (by repeat constructor) (by repeat constructor)) ?_
      rintro _ _ ⟨_, ⟨p1, q1, rfl, rfl⟩, rfl⟩
      refine Go.Sl.L.pu rfl rfl trivial (pu_move rfl) ?_
      refine Go.Sl.L.pu rfl rfl trivial (pu_extract rfl rfl) ?_
      refine Go.Sl.L.pu rfl rfl trivial (pu_extract rfl rfl) ?_
      refine Go.Sl.L.pu rfl rfl trivial (pu_assign rfl) ?_
      refine Go.Sl.L.pu rfl rfl trivial (pu_assign rfl) ?_
      refine Go.Sl.L.nil ?_
      refine Gs.then_n ?_
      refine Gs.seq ?_
      refine Gs.reg ?_
      refine Go.Sl.L.pu rfl rfl trivial (pu_move rfl) ?_
      refine Go.Sl.L.ac rfl rfl trivial (as_call (both_spec T hy hys) (by repeat constructor) (by repeat constructor)) ?_
      rintro _ _ ⟨_, ⟨p2, q2, rfl, rfl⟩, rfl⟩
      refine Go.Sl.L.pu rfl rfl trivial (pu_move rfl) ?_
      refine Go.Sl.L.pu rfl rfl trivial (pu_extract rfl rfl) ?_
      refine Go.Sl.L.pu rfl rfl trivial (pu_extract rfl rfl) ?_
      refine Go.Sl.L.pu rfl rfl trivial (pu_assign rfl) ?_
      refine Go.Sl.L.pu rfl rfl trivial (pu_assign rfl) ?_
      refine Go.Sl.L.nil ?_
      rw [← hAe, ← hBe]
      refine Gs.then_n ?_
      refine Gs.seq ?_
      refine Gs.seq ?_
      refine Gs.reg ?_
      refine Go.Sl.L.pu rfl rfl trivial (pu_move rfl) ?_
      refine Go.Sl.L.pu rfl rfl trivial (pu_eqN Tryd.underlying25 rfl rfl) ?_
      refine Go.Sl.L.puBf rfl rfl trivial (pu_move rfl) rfl ?_
      refine Go.Sl.L.pu rfl rfl ⟨_, rfl, rfl⟩ (pu_move rfl) ?_
      refine Go.Sl.L.pu rfl rfl ⟨_, rfl, rfl⟩ (pu_eqN Tryd.underlying25 rfl rfl) ?_
      refine Go.Sl.L.pu rfl rfl trivial (by first | exact pu_pick_t rfl rfl | exact pu_pick_f rfl rfl) ?_
      refine Go.Sl.L.nil ?_
      refine Gs.then_n ?_
      refine Gs.cond_f rfl ?_
      refine Gs.skip ?_
      refine Gs.then_n ?_
      refine Gs.seq ?_
      refine Gs.reg ?_
      refine Go.Sl.L.pu rfl rfl trivial (pu_assign rfl) ?_
      refine Go.Sl.L.nil ?_
      refine Gs.slNil 49 3 partC ?_
      refine Gs.then_n ?_
      refine Gs.seq ?_
      refine Gs.reg ?_
      refine Go.Sl.L.pu rfl rfl trivial (pu_move rfl) ?_
      refine Go.Sl.L.pu rfl rfl trivial (pu_fa fa_49_0 rfl) ?_
      refine Go.Sl.L.rd rfl rfl trivial (rd_ld na_3 rfl (Rdc.cl1 (by repeat constructor) rfl)) ?_
      refine Go.Sl.L.pu rfl rfl trivial (pu_fa fa_49_1 rfl) ?_
      refine Go.Sl.L.rd rfl rfl trivial (rd_ld na_3 rfl (Rdc.cl1 (by repeat constructor) rfl)) ?_
      refine Go.Sl.L.pu rfl rfl trivial (pu_fa fa_49_2 rfl) ?_
      refine Go.Sl.L.rd rfl rfl trivial (rd_ld na_3 rfl (Rdc.cl1 (by repeat constructor) rfl)) ?_
      refine Go.Sl.L.ac rfl rfl trivial (as_call (Sum12_spec T q1 A (by omega) hA p.o p.l p.i) (by repeat constructor) (by repeat constructor)) ?_
      rintro _ _ ⟨_, ⟨rfl, rfl⟩, rfl⟩
      refine Go.Sl.L.pu rfl rfl trivial (pu_move rfl) ?_
      refine Go.Sl.L.pu rfl rfl trivial (pu_extract rfl rfl) ?_
      refine Go.Sl.L.pu rfl rfl trivial (pu_extract rfl rfl) ?_
      refine Go.Sl.L.pu rfl rfl trivial (pu_assign rfl) ?_
      refine Go.Sl.L.pu rfl rfl trivial (pu_assign rfl) ?_
      refine Go.Sl.L.nil ?_
      refine Gs.then_n ?_
      refine Gs.seq ?_
      refine Gs.reg ?_
      refine Go.Sl.L.pu rfl rfl trivial (pu_move rfl) ?_
      refine Go.Sl.L.pu rfl rfl trivial (pu_fa fa_49_0 rfl) ?_
      refine Go.Sl.L.rd rfl rfl trivial (rd_ld na_3 rfl (Rdc.cl1 (by repeat constructor) rfl)) ?_
      refine Go.Sl.L.pu rfl rfl trivial (pu_fa fa_49_1 rfl) ?_
      refine Go.Sl.L.rd rfl rfl trivial (rd_ld na_3 rfl (Rdc.cl1 (by repeat constructor) rfl)) ?_
      refine Go.Sl.L.pu rfl rfl trivial (pu_fa fa_49_2 rfl) ?_
      refine Go.Sl.L.rd rfl rfl trivial (rd_ld na_3 rfl (Rdc.cl1 (by repeat constructor) rfl)) ?_
      refine Go.Sl.L.ac rfl rfl trivial (as_call (Sum12_spec T q2 B (by omega) hB p.o p.l p.i) (by repeat constructor) (by repeat constructor)) ?_
      rintro _ _ ⟨_, ⟨rfl, rfl⟩, rfl⟩
      refine Go.Sl.L.pu rfl rfl trivial (pu_move rfl) ?_
      refine Go.Sl.L.pu rfl rfl trivial (pu_extract rfl rfl) ?_
      refine Go.Sl.L.pu rfl rfl trivial (pu_extract rfl rfl) ?_
      refine Go.Sl.L.pu rfl rfl trivial (pu_assign rfl) ?_
      refine Go.Sl.L.pu rfl rfl trivial (pu_assign rfl) ?_
      refine Go.Sl.L.nil ?_
      refine Gs.then_n ?_
      refine Gs.seq ?_
      refine Gs.seq ?_
      refine Gs.reg ?_
      refine Go.Sl.L.pu rfl rfl trivial (pu_assign rfl) ?_
      refine Go.Sl.L.nil ?_
      refine Gs.then_n ?_
      refine Gs.block ?_
      refine Gs.loop1 (fun s : Nat × (Option Addr × Nat) × List Part => s.1 ≤ 4 ∧ s.2.2 = (partsK p s.1).filter (unl A B) ∧ (s.1 = 0 ∨ goB A B p = true)) (fun s => [(5, ptr pb), (7, ptr p1), (8, ptr q1), (9, ptr p2), (10, ptr q2), (11, .slice s.2.1.1 s.2.2.length s.2.1.2), (12, .int .u64 (sumT A p.o p.l p.i)), (13, .bool (thereB p.o p.l p.i)), (14, .int .u64 (sumT B p.o p.l p.i)), (16, int s.1)]) (fun s => [ro h0, sl 49 3 partC s.2.1.1 s.2.1.2 s.2.2, cl pb 49 (partC p), tre p1 A, tre p2 B, rt q1 A, rt q2 B] ++ R) (fun s => 4 - s.1) (0, (none, 0), []) (⟨Nat.zero_le _, rfl, .inl rfl⟩) (by repeat constructor) (by repeat constructor) (fun s hs => ?_)
      obtain ⟨j, ⟨wa, wc⟩, W⟩ := s
      obtain ⟨hj, hW, hgo⟩ := hs
      dsimp only at hj hW hgo ⊢
      have hWl : W.length ≤ j := by rw [hW]; have := List.length_filter_le (unl A B) (partsK p j); rw [partsK_length] at this; exact this
      refine Gs.seq ?_
      refine Gs.seq ?_
      refine Gs.reg ?_
      refine Go.Sl.L.pu rfl rfl trivial (pu_move rfl) ?_
      refine Go.Sl.L.pu rfl rfl trivial (pu_lt rfl rfl) ?_
      refine Go.Sl.L.puB rfl rfl trivial (pu_move rfl) (fun hg2 => ?_) (fun hg2 => ?_)
      · skip
        refine Go.Sl.L.pu rfl rfl ⟨_, rfl, rfl⟩ (pu_move rfl) ?_
        refine Go.Sl.L.pu rfl rfl trivial (by first | exact pu_pick_t rfl rfl | exact pu_pick_f rfl rfl) ?_
        refine Go.Sl.L.puB rfl rfl trivial (pu_move rfl) (fun hg5 => ?_) (fun hg5 => ?_)
        · skip
          refine Go.Sl.L.pu rfl rfl ⟨_, rfl, rfl⟩ (pu_move rfl) ?_
          refine Go.Sl.L.pu rfl rfl ⟨_, rfl, rfl⟩ (pu_move rfl) ?_
          refine Go.Sl.L.pu rfl rfl ⟨_, rfl, rfl⟩ (pu_ne rfl rfl) ?_
          refine Go.Sl.L.pu rfl rfl trivial (by first | exact pu_pick_t rfl rfl | exact pu_pick_f rfl rfl) ?_
          refine Go.Sl.L.puB rfl rfl trivial (pu_move rfl) (fun hg10 => ?_) (fun hg10 => ?_)
          · skip
            refine Go.Sl.L.pu rfl rfl ⟨_, rfl, rfl⟩ (pu_fa fa_49_1 rfl) ?_
            refine Go.Sl.L.rd rfl rfl ⟨_, rfl, rfl⟩ (rd_ld na_3 rfl (Rdc.cl1 (by repeat constructor) rfl)) ?_
            refine Go.Sl.L.pu rfl rfl ⟨_, rfl, rfl⟩ (pu_lt rfl rfl) ?_
            refine Go.Sl.L.pu rfl rfl trivial (by first | exact pu_pick_t rfl rfl | exact pu_pick_f rfl rfl) ?_
            refine Go.Sl.L.nil ?_
            refine Gs.then_n ?_
            refine Gs.cond rfl (fun hc2 => ?_) (fun hc2 => ?_)
            · skip
              have hyes : goB A B p = true := by have h1 : unl A B p = true := hg10; have h2 : decide (p.l < 5) = true := hc2; simp only [goB, hg5, h1, h2, Bool.and_self]
              obtain ⟨b1, b2, b3, b4, b5, b6, b7⟩ := there_bound hg5
              have hlt : j < 4 := by have := of_decide_eq_true hg2; omega
              refine Gs.skip ?_
              refine Gs.then_n ?_
              refine Gs.seq ?_
              refine Gs.block ?_
              refine Gs.seq ?_
              refine Gs.reg ?_
              refine Go.Sl.L.pu rfl rfl trivial (pu_move rfl) ?_
              refine Go.Sl.L.pu rfl rfl trivial (pu_fa fa_49_0 rfl) ?_
              refine Go.Sl.L.rd rfl rfl trivial (rd_ld na_3 rfl (Rdc.cl1 (by repeat constructor) rfl)) ?_
              refine Go.Sl.L.pu rfl rfl trivial (pu_fa fa_49_1 rfl) ?_
              refine Go.Sl.L.rd rfl rfl trivial (rd_ld na_3 rfl (Rdc.cl1 (by repeat constructor) rfl)) ?_
              refine Go.Sl.L.pu rfl rfl trivial (pu_addI (z := p.l + 1) rfl rfl rfl (by omega) (by omega)) ?_
              refine Go.Sl.L.pu rfl rfl trivial (pu_fa fa_49_2 rfl) ?_
              refine Go.Sl.L.rd rfl rfl trivial (rd_ld na_3 rfl (Rdc.cl1 (by repeat constructor) rfl)) ?_
              refine Go.Sl.L.pu rfl rfl trivial (pu_mulI (z := 4 * p.i) rfl rfl (by omega) (by omega) (by omega)) ?_
              refine Go.Sl.L.pu rfl rfl trivial (pu_move rfl) ?_
              refine Go.Sl.L.pu rfl rfl trivial (pu_addI (z := 4 * p.i + (j : Int)) rfl rfl rfl (by omega) (by omega)) ?_
              refine Go.Sl.L.ac rfl rfl trivial (as_call (Sum12_spec T q1 A (by omega) hA p.o (p.l + 1) (4 * p.i + (j : Int))) (by repeat constructor) (by repeat constructor)) ?_
              rintro _ _ ⟨_, ⟨rfl, rfl⟩, rfl⟩
              refine Go.Sl.L.pu rfl rfl trivial (pu_move rfl) ?_
              refine Go.Sl.L.pu rfl rfl trivial (pu_extract rfl rfl) ?_
              refine Go.Sl.L.pu rfl rfl trivial (pu_extract rfl rfl) ?_
              refine Go.Sl.L.pu rfl rfl trivial (pu_assign rfl) ?_
              refine Go.Sl.L.pu rfl rfl trivial (pu_assign rfl) ?_
              refine Go.Sl.L.nil ?_
              refine Gs.then_n ?_
              refine Gs.seq ?_
              refine Gs.reg ?_
              refine Go.Sl.L.pu rfl rfl trivial (pu_move rfl) ?_
              refine Go.Sl.L.pu rfl rfl trivial (pu_fa fa_49_0 rfl) ?_
              refine Go.Sl.L.rd rfl rfl trivial (rd_ld na_3 rfl (Rdc.cl1 (by repeat constructor) rfl)) ?_
              refine Go.Sl.L.pu rfl rfl trivial (pu_fa fa_49_1 rfl) ?_
              refine Go.Sl.L.rd rfl rfl trivial (rd_ld na_3 rfl (Rdc.cl1 (by repeat constructor) rfl)) ?_
              refine Go.Sl.L.pu rfl rfl trivial (pu_addI (z := p.l + 1) rfl rfl rfl (by omega) (by omega)) ?_
              refine Go.Sl.L.pu rfl rfl trivial (pu_fa fa_49_2 rfl) ?_
              refine Go.Sl.L.rd rfl rfl trivial (rd_ld na_3 rfl (Rdc.cl1 (by repeat constructor) rfl)) ?_
              refine Go.Sl.L.pu rfl rfl trivial (pu_mulI (z := 4 * p.i) rfl rfl (by omega) (by omega) (by omega)) ?_
              refine Go.Sl.L.pu rfl rfl trivial (pu_move rfl) ?_
              refine Go.Sl.L.pu rfl rfl trivial (pu_addI (z := 4 * p.i + (j : Int)) rfl rfl rfl (by omega) (by omega)) ?_
              refine Go.Sl.L.ac rfl rfl trivial (as_call (Sum12_spec T q2 B (by omega) hB p.o (p.l + 1) (4 * p.i + (j : Int))) (by repeat constructor) (by repeat constructor)) ?_
              rintro _ _ ⟨_, ⟨rfl, rfl⟩, rfl⟩
              refine Go.Sl.L.pu rfl rfl trivial (pu_move rfl) ?_
              refine Go.Sl.L.pu rfl rfl trivial (pu_extract rfl rfl) ?_
              refine Go.Sl.L.pu rfl rfl trivial (pu_extract rfl rfl) ?_
              refine Go.Sl.L.pu rfl rfl trivial (pu_assign rfl) ?_
              refine Go.Sl.L.pu rfl rfl trivial (pu_assign rfl) ?_
              refine Go.Sl.L.nil ?_
              refine Gs.then_n ?_
              refine Gs.seq ?_
              refine Gs.reg ?_
              refine Go.Sl.L.pu rfl rfl trivial (pu_move rfl) ?_
              refine Go.Sl.L.pu rfl rfl trivial (pu_move rfl) ?_
              refine Go.Sl.L.pu rfl rfl trivial (pu_ne rfl rfl) ?_
              refine Go.Sl.L.nil ?_
              refine Gs.then_n ?_
              refine Gs.cond rfl (fun hc3 => ?_) (fun hc3 => ?_)
              · skip
                have hup := filter_t (A := A) (B := B) (p := p) (j := j) hc3
                rw [← hW] at hup
                refine Gs.reg ?_
                refine Go.Sl.L.pu rfl rfl trivial (pu_move rfl) ?_
                refine Go.Sl.L.pu rfl rfl trivial (pu_fa fa_49_0 rfl) ?_
                refine Go.Sl.L.rd rfl rfl trivial (rd_ld na_3 rfl (Rdc.cl1 (by repeat constructor) rfl)) ?_
                refine Go.Sl.L.pu rfl rfl trivial (pu_fa fa_49_1 rfl) ?_
                refine Go.Sl.L.rd rfl rfl trivial (rd_ld na_3 rfl (Rdc.cl1 (by repeat constructor) rfl)) ?_
                refine Go.Sl.L.pu rfl rfl trivial (pu_addI (z := p.l + 1) rfl rfl rfl (by omega) (by omega)) ?_
                refine Go.Sl.L.pu rfl rfl trivial (pu_fa fa_49_2 rfl) ?_
                refine Go.Sl.L.rd rfl rfl trivial (rd_ld na_3 rfl (Rdc.cl1 (by repeat constructor) rfl)) ?_
                refine Go.Sl.L.pu rfl rfl trivial (pu_mulI (z := 4 * p.i) rfl rfl (by omega) (by omega) (by omega)) ?_
                refine Go.Sl.L.pu rfl rfl trivial (pu_move rfl) ?_
                refine Go.Sl.L.pu rfl rfl trivial (pu_addI (z := 4 * p.i + (j : Int)) rfl rfl rfl (by omega) (by omega)) ?_
                refine Go.Sl.L.pu rfl rfl trivial (pu_build bd_49 (by repeat constructor) rfl) ?_
                refine Go.Sl.L.ac rfl rfl trivial (ac_lit encC_49 ([⟨p.o, p.l + 1, 4 * p.i + (j : Int)⟩]) et_50 ek_49 rfl (by repeat constructor) rfl rfl (by decide)) ?_
                rintro _ _ ⟨a130, rfl, rfl⟩
                refine Go.Sl.L.ac rfl rfl trivial (ac_append (xs := W) (ys := [(⟨p.o, p.l + 1, 4 * p.i + (j : Int)⟩ : Part)]) et_50 ek_49 rfl rfl (by repeat constructor) (SrcH.sl Tryd.underlying50 ek_49 (SlH.own (by repeat constructor))) (by first | omega | (simp; omega)) (by first | omega | (simp; omega))) ?_
                rintro _ _ ⟨a131, c131, rfl, rfl⟩
                refine Go.Sl.L.pu rfl rfl trivial (pu_assign rfl) ?_
                refine Go.Sl.L.nil ?_
                refine Gs.blk_n ?_
                refine Gs.then_n ?_
                refine Gs.reg ?_
                refine Go.Sl.L.pu rfl rfl trivial (pu_move rfl) ?_
                refine Go.Sl.L.pu rfl rfl trivial (by first | exact pu_addI rfl rfl rfl (by omega) (by omega) | exact pu_add rfl rfl) ?_
                refine Go.Sl.L.pu rfl rfl trivial (pu_assign rfl) ?_
                refine Go.Sl.L.nil ?_
                refine Gs.then_n ?_
                first | exact Gs.again1 (j + 1, (a131, c131), W ++ [⟨p.o, p.l + 1, 4 * p.i + (j : Int)⟩]) ⟨by show j + 1 ≤ 4; omega, hup.symm, .inr hyes⟩ (by show 4 - (j + 1) < 4 - j; omega) (by repeat constructor) (by repeat constructor) | exact Gs.again1 (j + 1, (wa, wc), W) ⟨by show j + 1 ≤ 4; omega, hup.symm, .inr hyes⟩ (by show 4 - (j + 1) < 4 - j; omega) (by repeat constructor) (by repeat constructor)
              · skip
                have hup := filter_f (A := A) (B := B) (p := p) (j := j) hc3
                rw [← hW] at hup
                refine Gs.skip ?_
                refine Gs.blk_n ?_
                refine Gs.then_n ?_
                refine Gs.reg ?_
                refine Go.Sl.L.pu rfl rfl trivial (pu_move rfl) ?_
                refine Go.Sl.L.pu rfl rfl trivial (by first | exact pu_addI rfl rfl rfl (by omega) (by omega) | exact pu_add rfl rfl) ?_
                refine Go.Sl.L.pu rfl rfl trivial (pu_assign rfl) ?_
                refine Go.Sl.L.nil ?_
                refine Gs.then_n ?_
                first | exact Gs.again1 (j + 1, (a131, c131), W ++ [⟨p.o, p.l + 1, 4 * p.i + (j : Int)⟩]) ⟨by show j + 1 ≤ 4; omega, hup.symm, .inr hyes⟩ (by show 4 - (j + 1) < 4 - j; omega) (by repeat constructor) (by repeat constructor) | exact Gs.again1 (j + 1, (wa, wc), W) ⟨by show j + 1 ≤ 4; omega, hup.symm, .inr hyes⟩ (by show 4 - (j + 1) < 4 - j; omega) (by repeat constructor) (by repeat constructor)
            · skip
              have hexit : W = stepP A B p := by
                have hno : goB A B p = false := by have : decide (p.l < 5) = false := hc2; simp only [goB, this, Bool.and_false]
                have h00 : j = 0 := by rcases hgo with h | h <;> first | exact h | (rw [hno] at h; cases h)
                subst h00; rw [hW, goB_no hno]; rfl
              refine Gs.exit ?_
              refine Gs.then_x ?_
              refine Gs.then_x ?_
              refine Gs.blk_hit ?_
              refine Gs.then_n ?_
              refine Gs.seq ?_
              have hsl := stepP_length A B p
              subst hexit
              refine Gs.takes (As := [tre p1 A, tre p2 B]) (by repeat constructor) (Gs.toTwo ?_)
              refine Gs.reg ?_
              refine Go.Sl.L.pu rfl rfl trivial (pu_move rfl) ?_
              refine Go.Sl.L.pu rfl rfl trivial (pu_move rfl) ?_
              refine Go.Sl.L.rd rfl rfl trivial (rd_lda ag_49 rfl (Rdc.cl 3 (by repeat constructor) rfl) rfl) ?_
              refine Go.Sl.L.ac rfl rfl trivial (as_call (step_spec (TrR.own p1 A).left (TrR.own p2 B).right p) (by repeat constructor) (by repeat constructor)) ?_
              rintro _ _ ⟨_, ⟨sa, sc, rfl, rfl⟩, rfl⟩
              refine Go.Sl.L.pu rfl rfl trivial (pu_assign rfl) ?_
              refine Go.Sl.L.nil ?_
              refine Gs.then_n ?_
              refine Gs.seq ?_
              refine Gs.seq ?_
              refine Gs.reg ?_
              refine Go.Sl.L.pu rfl rfl trivial (pu_move rfl) ?_
              refine Go.Sl.L.pu rfl rfl trivial (pu_len Tryd.underlying50 rfl) ?_
              refine Go.Sl.L.pu rfl rfl trivial (pu_move rfl) ?_
              refine Go.Sl.L.pu rfl rfl trivial (pu_len Tryd.underlying50 rfl) ?_
              refine Go.Sl.L.pu rfl rfl trivial (pu_ne rfl rfl) ?_
              refine Go.Sl.L.nil ?_
              refine Gs.then_n ?_
              refine Gs.cond_ff rfl (decide_eq_false (by simp)) ?_
              refine Gs.skip ?_
              refine Gs.then_n ?_
              refine Gs.seq ?_
              refine Gs.seq ?_
              refine Gs.slAddr (SlH.own (by repeat constructor) : SlH _ _ 3 partC sa (stepP A B p)) fun ab ao ha => ?_
              refine Gs.slAddr (SlH.own (by repeat constructor) : SlH _ _ 3 partC wa (stepP A B p)) fun ub uo hu => ?_
              refine Gs.reg ?_
              refine Go.Sl.L.pu rfl rfl trivial (pu_assign rfl) ?_
              refine Go.Sl.L.nil ?_
              refine Gs.then_n ?_
              refine Gs.block ?_
              refine Gs.loop1 (fun i : Nat => i ≤ (stepP A B p).length) (fun i => [(11, .slice wa (stepP A B p).length wc), (21, .slice sa (stepP A B p).length sc), (22, int i)]) (fun i => [ro h0, sl 49 3 partC sa sc (stepP A B p), sl 49 3 partC wa wc (stepP A B p)] ++ R) (fun i => (stepP A B p).length - i) 0 (Nat.zero_le _) (by repeat constructor) (by repeat constructor) (fun i hi => ?_)
              refine Gs.seq ?_
              refine Gs.seq ?_
              refine Gs.reg ?_
              refine Go.Sl.L.pu rfl rfl trivial (pu_move rfl) ?_
              refine Go.Sl.L.pu rfl rfl trivial (pu_move rfl) ?_
              refine Go.Sl.L.pu rfl rfl trivial (pu_len Tryd.underlying50 rfl) ?_
              refine Go.Sl.L.pu rfl rfl trivial (pu_lt rfl rfl) ?_
              refine Go.Sl.L.nil ?_
              refine Gs.then_n ?_
              refine Gs.cond rfl (fun hc5 => ?_) (fun hc5 => ?_)
              · skip
                have hlt : i < (stepP A B p).length := by have := of_decide_eq_true hc5; omega
                obtain ⟨x, hx⟩ : ∃ x, (stepP A B p)[i]? = some x := ⟨(stepP A B p)[i], by simp [hlt]⟩
                obtain rfl := ha (by intro e; rw [e] at hx; simp at hx)
                obtain rfl := hu (by intro e; rw [e] at hx; simp at hx)
                refine Gs.skip ?_
                refine Gs.then_n ?_
                refine Gs.seq ?_
                refine Gs.block ?_
                refine Gs.seq ?_
                refine Gs.regD mixed (by kernel_rfl) ?_
                refine Rg.pu 0 rfl rfl (by kernel_rfl) trivial (pu_move rfl) ?_
                refine Rg.pu 1 rfl rfl (by kernel_rfl) trivial (pu_move rfl) ?_
                refine Rg.pu 2 rfl rfl (by kernel_rfl) trivial (pu_ia se_50 rfl rfl (by omega) (by omega)) ?_
                refine Rg.rd 3 rfl rfl (by kernel_rfl) trivial (rd_lda ag_49 rfl (Rdc.el0 (SlH.own (by repeat constructor)) hx rfl rfl) rfl) ?_
                refine Rg.pu 4 rfl rfl (by kernel_rfl) trivial (pu_move rfl) ?_
                refine Rg.pu 5 rfl rfl (by kernel_rfl) trivial (pu_move rfl) ?_
                refine Rg.pu 6 rfl rfl (by kernel_rfl) trivial (pu_ia se_50 rfl rfl (by omega) (by omega)) ?_
                refine Rg.rd 7 rfl rfl (by kernel_rfl) trivial (rd_lda ag_49 rfl (Rdc.el0 (SlH.own (by repeat constructor)) hx rfl rfl) rfl) ?_
                refine Rg.pu 8 rfl rfl (by kernel_rfl) trivial (pu_neT (a := x) (b := x) cmp_49 (by decide) Tryd.eqGuardType49 rfl rfl) ?_
                refine Rg.end (by kernel_rfl) ?_
                refine Gs.then_n ?_
                refine Gs.cond_ff rfl (by simp) ?_
                refine Gs.skip ?_
                refine Gs.blk_n ?_
                refine Gs.then_n ?_
                refine Gs.reg ?_
                refine Go.Sl.L.pu rfl rfl trivial (pu_move rfl) ?_
                refine Go.Sl.L.pu rfl rfl trivial (by first | exact pu_addI rfl rfl rfl (by omega) (by omega) | exact pu_add rfl rfl) ?_
                refine Go.Sl.L.pu rfl rfl trivial (pu_assign rfl) ?_
                refine Go.Sl.L.nil ?_
                refine Gs.then_n ?_
                exact Gs.again1 (i + 1) (by omega) (by omega) (by repeat constructor) (by repeat constructor)
              · skip
                refine Gs.exit ?_
                refine Gs.then_x ?_
                refine Gs.then_x ?_
                refine Gs.blk_hit ?_
                refine Gs.then_n ?_
                refine Gs.seq ?_
                refine Gs.reg ?_
                refine Go.Sl.L.ac rfl rfl trivial (as_call (awake_spec T) (by repeat constructor) (by repeat constructor)) ?_
                rintro _ _ ⟨_, ⟨rfl, rfl⟩, rfl⟩
                refine Go.Sl.L.pu rfl rfl trivial (pu_assign rfl) ?_
                refine Go.Sl.L.nil ?_
                refine Gs.then_n ?_
                refine Gs.ret ?_
                exact Gs.fin1 Tryd.results4 rfl _ (⟨rfl, rfl⟩) (by repeat constructor)
          · skip
            have hexit : W = stepP A B p := by
              have hu : unl A B p = false := hg10
              have hno : goB A B p = false := by simp only [goB, hu, Bool.false_and, Bool.and_false]
              have h00 : j = 0 := by rcases hgo with h | h <;> first | exact h | (rw [hno] at h; cases h)
              subst h00; rw [hW, goB_no hno]; rfl
            refine Go.Sl.L.off rfl rfl rfl rfl rfl rfl ?_
            refine Go.Sl.L.off rfl rfl rfl rfl rfl rfl ?_
            refine Go.Sl.L.off rfl rfl rfl rfl rfl rfl ?_
            refine Go.Sl.L.pu rfl rfl trivial (by first | exact pu_pick_t rfl rfl | exact pu_pick_f rfl rfl) ?_
            refine Go.Sl.L.nil ?_
            refine Gs.then_n ?_
            refine Gs.cond_f rfl ?_
            refine Gs.exit ?_
            refine Gs.then_x ?_
            refine Gs.then_x ?_
            refine Gs.blk_hit ?_
            refine Gs.then_n ?_
            refine Gs.seq ?_
            have hsl := stepP_length A B p
            subst hexit
            refine Gs.takes (As := [tre p1 A, tre p2 B]) (by repeat constructor) (Gs.toTwo ?_)
            refine Gs.reg ?_
            refine Go.Sl.L.pu rfl rfl trivial (pu_move rfl) ?_
            refine Go.Sl.L.pu rfl rfl trivial (pu_move rfl) ?_
            refine Go.Sl.L.rd rfl rfl trivial (rd_lda ag_49 rfl (Rdc.cl 3 (by repeat constructor) rfl) rfl) ?_
            refine Go.Sl.L.ac rfl rfl trivial (as_call (step_spec (TrR.own p1 A).left (TrR.own p2 B).right p) (by repeat constructor) (by repeat constructor)) ?_
            rintro _ _ ⟨_, ⟨sa, sc, rfl, rfl⟩, rfl⟩
            refine Go.Sl.L.pu rfl rfl trivial (pu_assign rfl) ?_
            refine Go.Sl.L.nil ?_
            refine Gs.then_n ?_
            refine Gs.seq ?_
            refine Gs.seq ?_
            refine Gs.reg ?_
            refine Go.Sl.L.pu rfl rfl trivial (pu_move rfl) ?_
            refine Go.Sl.L.pu rfl rfl trivial (pu_len Tryd.underlying50 rfl) ?_
            refine Go.Sl.L.pu rfl rfl trivial (pu_move rfl) ?_
            refine Go.Sl.L.pu rfl rfl trivial (pu_len Tryd.underlying50 rfl) ?_
            refine Go.Sl.L.pu rfl rfl trivial (pu_ne rfl rfl) ?_
            refine Go.Sl.L.nil ?_
            refine Gs.then_n ?_
            refine Gs.cond_ff rfl (decide_eq_false (by simp)) ?_
            refine Gs.skip ?_
            refine Gs.then_n ?_
            refine Gs.seq ?_
            refine Gs.seq ?_
            refine Gs.slAddr (SlH.own (by repeat constructor) : SlH _ _ 3 partC sa (stepP A B p)) fun ab ao ha => ?_
            refine Gs.slAddr (SlH.own (by repeat constructor) : SlH _ _ 3 partC wa (stepP A B p)) fun ub uo hu => ?_
            refine Gs.reg ?_
            refine Go.Sl.L.pu rfl rfl trivial (pu_assign rfl) ?_
            refine Go.Sl.L.nil ?_
            refine Gs.then_n ?_
            refine Gs.block ?_
            refine Gs.loop1 (fun i : Nat => i ≤ (stepP A B p).length) (fun i => [(11, .slice wa (stepP A B p).length wc), (21, .slice sa (stepP A B p).length sc), (22, int i)]) (fun i => [ro h0, sl 49 3 partC sa sc (stepP A B p), sl 49 3 partC wa wc (stepP A B p)] ++ R) (fun i => (stepP A B p).length - i) 0 (Nat.zero_le _) (by repeat constructor) (by repeat constructor) (fun i hi => ?_)
            refine Gs.seq ?_
            refine Gs.seq ?_
            refine Gs.reg ?_
            refine Go.Sl.L.pu rfl rfl trivial (pu_move rfl) ?_
            refine Go.Sl.L.pu rfl rfl trivial (pu_move rfl) ?_
            refine Go.Sl.L.pu rfl rfl trivial (pu_len Tryd.underlying50 rfl) ?_
            refine Go.Sl.L.pu rfl rfl trivial (pu_lt rfl rfl) ?_
            refine Go.Sl.L.nil ?_
            refine Gs.then_n ?_
            refine Gs.cond rfl (fun hc5 => ?_) (fun hc5 => ?_)
            · skip
              have hlt : i < (stepP A B p).length := by have := of_decide_eq_true hc5; omega
              obtain ⟨x, hx⟩ : ∃ x, (stepP A B p)[i]? = some x := ⟨(stepP A B p)[i], by simp [hlt]⟩
              obtain rfl := ha (by intro e; rw [e] at hx; simp at hx)
              obtain rfl := hu (by intro e; rw [e] at hx; simp at hx)
              refine Gs.skip ?_
              refine Gs.then_n ?_
              refine Gs.seq ?_
              refine Gs.block ?_
              refine Gs.seq ?_
              refine Gs.regD mixed (by kernel_rfl) ?_
              refine Rg.pu 0 rfl rfl (by kernel_rfl) trivial (pu_move rfl) ?_
              refine Rg.pu 1 rfl rfl (by kernel_rfl) trivial (pu_move rfl) ?_
              refine Rg.pu 2 rfl rfl (by kernel_rfl) trivial (pu_ia se_50 rfl rfl (by omega) (by omega)) ?_
              refine Rg.rd 3 rfl rfl (by kernel_rfl) trivial (rd_lda ag_49 rfl (Rdc.el0 (SlH.own (by repeat constructor)) hx rfl rfl) rfl) ?_
              refine Rg.pu 4 rfl rfl (by kernel_rfl) trivial (pu_move rfl) ?_
              refine Rg.pu 5 rfl rfl (by kernel_rfl) trivial (pu_move rfl) ?_
              refine Rg.pu 6 rfl rfl (by kernel_rfl) trivial (pu_ia se_50 rfl rfl (by omega) (by omega)) ?_
              refine Rg.rd 7 rfl rfl (by kernel_rfl) trivial (rd_lda ag_49 rfl (Rdc.el0 (SlH.own (by repeat constructor)) hx rfl rfl) rfl) ?_
              refine Rg.pu 8 rfl rfl (by kernel_rfl) trivial (pu_neT (a := x) (b := x) cmp_49 (by decide) Tryd.eqGuardType49 rfl rfl) ?_
              refine Rg.end (by kernel_rfl) ?_
              refine Gs.then_n ?_
              refine Gs.cond_ff rfl (by simp) ?_
              refine Gs.skip ?_
              refine Gs.blk_n ?_
              refine Gs.then_n ?_
              refine Gs.reg ?_
              refine Go.Sl.L.pu rfl rfl trivial (pu_move rfl) ?_
              refine Go.Sl.L.pu rfl rfl trivial (by first | exact pu_addI rfl rfl rfl (by omega) (by omega) | exact pu_add rfl rfl) ?_
              refine Go.Sl.L.pu rfl rfl trivial (pu_assign rfl) ?_
              refine Go.Sl.L.nil ?_
              refine Gs.then_n ?_
              exact Gs.again1 (i + 1) (by omega) (by omega) (by repeat constructor) (by repeat constructor)
            · skip
              refine Gs.exit ?_
              refine Gs.then_x ?_
              refine Gs.then_x ?_
              refine Gs.blk_hit ?_
              refine Gs.then_n ?_
              refine Gs.seq ?_
              refine Gs.reg ?_
              refine Go.Sl.L.ac rfl rfl trivial (as_call (awake_spec T) (by repeat constructor) (by repeat constructor)) ?_
              rintro _ _ ⟨_, ⟨rfl, rfl⟩, rfl⟩
              refine Go.Sl.L.pu rfl rfl trivial (pu_assign rfl) ?_
              refine Go.Sl.L.nil ?_
              refine Gs.then_n ?_
              refine Gs.ret ?_
              exact Gs.fin1 Tryd.results4 rfl _ (⟨rfl, rfl⟩) (by repeat constructor)
        · skip
          have hexit : W = stepP A B p := by
            have hno : goB A B p = false := by simp only [goB, hg5, Bool.false_and]
            have h00 : j = 0 := by rcases hgo with h | h <;> first | exact h | (rw [hno] at h; cases h)
            subst h00; rw [hW, goB_no hno]; rfl
          refine Go.Sl.L.off rfl rfl rfl rfl rfl rfl ?_
          refine Go.Sl.L.off rfl rfl rfl rfl rfl rfl ?_
          refine Go.Sl.L.off rfl rfl rfl rfl rfl rfl ?_
          refine Go.Sl.L.pu rfl rfl trivial (by first | exact pu_pick_t rfl rfl | exact pu_pick_f rfl rfl) ?_
          refine Go.Sl.L.pu rfl rfl trivial (pu_move rfl) ?_
          refine Go.Sl.L.off rfl rfl rfl rfl rfl rfl ?_
          refine Go.Sl.L.off rfl rfl rfl rfl rfl rfl ?_
          refine Go.Sl.L.off rfl rfl rfl rfl rfl rfl ?_
          refine Go.Sl.L.pu rfl rfl trivial (by first | exact pu_pick_t rfl rfl | exact pu_pick_f rfl rfl) ?_
          refine Go.Sl.L.nil ?_
          refine Gs.then_n ?_
          refine Gs.cond_f rfl ?_
          refine Gs.exit ?_
          refine Gs.then_x ?_
          refine Gs.then_x ?_
          refine Gs.blk_hit ?_
          refine Gs.then_n ?_
          refine Gs.seq ?_
          have hsl := stepP_length A B p
          subst hexit
          refine Gs.takes (As := [tre p1 A, tre p2 B]) (by repeat constructor) (Gs.toTwo ?_)
          refine Gs.reg ?_
          refine Go.Sl.L.pu rfl rfl trivial (pu_move rfl) ?_
          refine Go.Sl.L.pu rfl rfl trivial (pu_move rfl) ?_
          refine Go.Sl.L.rd rfl rfl trivial (rd_lda ag_49 rfl (Rdc.cl 3 (by repeat constructor) rfl) rfl) ?_
          refine Go.Sl.L.ac rfl rfl trivial (as_call (step_spec (TrR.own p1 A).left (TrR.own p2 B).right p) (by repeat constructor) (by repeat constructor)) ?_
          rintro _ _ ⟨_, ⟨sa, sc, rfl, rfl⟩, rfl⟩
          refine Go.Sl.L.pu rfl rfl trivial (pu_assign rfl) ?_
          refine Go.Sl.L.nil ?_
          refine Gs.then_n ?_
          refine Gs.seq ?_
          refine Gs.seq ?_
          refine Gs.reg ?_
          refine Go.Sl.L.pu rfl rfl trivial (pu_move rfl) ?_
          refine Go.Sl.L.pu rfl rfl trivial (pu_len Tryd.underlying50 rfl) ?_
          refine Go.Sl.L.pu rfl rfl trivial (pu_move rfl) ?_
          refine Go.Sl.L.pu rfl rfl trivial (pu_len Tryd.underlying50 rfl) ?_
          refine Go.Sl.L.pu rfl rfl trivial (pu_ne rfl rfl) ?_
          refine Go.Sl.L.nil ?_
          refine Gs.then_n ?_
          refine Gs.cond_ff rfl (decide_eq_false (by simp)) ?_
          refine Gs.skip ?_
          refine Gs.then_n ?_
          refine Gs.seq ?_
          refine Gs.seq ?_
          refine Gs.slAddr (SlH.own (by repeat constructor) : SlH _ _ 3 partC sa (stepP A B p)) fun ab ao ha => ?_
          refine Gs.slAddr (SlH.own (by repeat constructor) : SlH _ _ 3 partC wa (stepP A B p)) fun ub uo hu => ?_
          refine Gs.reg ?_
          refine Go.Sl.L.pu rfl rfl trivial (pu_assign rfl) ?_
          refine Go.Sl.L.nil ?_
          refine Gs.then_n ?_
          refine Gs.block ?_
          refine Gs.loop1 (fun i : Nat => i ≤ (stepP A B p).length) (fun i => [(11, .slice wa (stepP A B p).length wc), (21, .slice sa (stepP A B p).length sc), (22, int i)]) (fun i => [ro h0, sl 49 3 partC sa sc (stepP A B p), sl 49 3 partC wa wc (stepP A B p)] ++ R) (fun i => (stepP A B p).length - i) 0 (Nat.zero_le _) (by repeat constructor) (by repeat constructor) (fun i hi => ?_)
          refine Gs.seq ?_
          refine Gs.seq ?_
          refine Gs.reg ?_
          refine Go.Sl.L.pu rfl rfl trivial (pu_move rfl) ?_
          refine Go.Sl.L.pu rfl rfl trivial (pu_move rfl) ?_
          refine Go.Sl.L.pu rfl rfl trivial (pu_len Tryd.underlying50 rfl) ?_
          refine Go.Sl.L.pu rfl rfl trivial (pu_lt rfl rfl) ?_
          refine Go.Sl.L.nil ?_
          refine Gs.then_n ?_
          refine Gs.cond rfl (fun hc5 => ?_) (fun hc5 => ?_)
          · skip
            have hlt : i < (stepP A B p).length := by have := of_decide_eq_true hc5; omega
            obtain ⟨x, hx⟩ : ∃ x, (stepP A B p)[i]? = some x := ⟨(stepP A B p)[i], by simp [hlt]⟩
            obtain rfl := ha (by intro e; rw [e] at hx; simp at hx)
            obtain rfl := hu (by intro e; rw [e] at hx; simp at hx)
            refine Gs.skip ?_
            refine Gs.then_n ?_
            refine Gs.seq ?_
            refine Gs.block ?_
            refine Gs.seq ?_
            refine Gs.regD mixed (by kernel_rfl) ?_
            refine Rg.pu 0 rfl rfl (by kernel_rfl) trivial (pu_move rfl) ?_
            refine Rg.pu 1 rfl rfl (by kernel_rfl) trivial (pu_move rfl) ?_
            refine Rg.pu 2 rfl rfl (by kernel_rfl) trivial (pu_ia se_50 rfl rfl (by omega) (by omega)) ?_
            refine Rg.rd 3 rfl rfl (by kernel_rfl) trivial (rd_lda ag_49 rfl (Rdc.el0 (SlH.own (by repeat constructor)) hx rfl rfl) rfl) ?_
            refine Rg.pu 4 rfl rfl (by kernel_rfl) trivial (pu_move rfl) ?_
            refine Rg.pu 5 rfl rfl (by kernel_rfl) trivial (pu_move rfl) ?_
            refine Rg.pu 6 rfl rfl (by kernel_rfl) trivial (pu_ia se_50 rfl rfl (by omega) (by omega)) ?_
            refine Rg.rd 7 rfl rfl (by kernel_rfl) trivial (rd_lda ag_49 rfl (Rdc.el0 (SlH.own (by repeat constructor)) hx rfl rfl) rfl) ?_
            refine Rg.pu 8 rfl rfl (by kernel_rfl) trivial (pu_neT (a := x) (b := x) cmp_49 (by decide) Tryd.eqGuardType49 rfl rfl) ?_
            refine Rg.end (by kernel_rfl) ?_
            refine Gs.then_n ?_
            refine Gs.cond_ff rfl (by simp) ?_
            refine Gs.skip ?_
            refine Gs.blk_n ?_
            refine Gs.then_n ?_
            refine Gs.reg ?_
            refine Go.Sl.L.pu rfl rfl trivial (pu_move rfl) ?_
            refine Go.Sl.L.pu rfl rfl trivial (by first | exact pu_addI rfl rfl rfl (by omega) (by omega) | exact pu_add rfl rfl) ?_
            refine Go.Sl.L.pu rfl rfl trivial (pu_assign rfl) ?_
            refine Go.Sl.L.nil ?_
            refine Gs.then_n ?_
            exact Gs.again1 (i + 1) (by omega) (by omega) (by repeat constructor) (by repeat constructor)
          · skip
            refine Gs.exit ?_
            refine Gs.then_x ?_
            refine Gs.then_x ?_
            refine Gs.blk_hit ?_
            refine Gs.then_n ?_
            refine Gs.seq ?_
            refine Gs.reg ?_
            refine Go.Sl.L.ac rfl rfl trivial (as_call (awake_spec T) (by repeat constructor) (by repeat constructor)) ?_
            rintro _ _ ⟨_, ⟨rfl, rfl⟩, rfl⟩
            refine Go.Sl.L.pu rfl rfl trivial (pu_assign rfl) ?_
            refine Go.Sl.L.nil ?_
            refine Gs.then_n ?_
            refine Gs.ret ?_
            exact Gs.fin1 Tryd.results4 rfl _ (⟨rfl, rfl⟩) (by repeat constructor)
      · skip
        have hexit : W = stepP A B p := by
          have h4 : j = 4 := by have := of_decide_eq_false hg2; omega
          subst h4
          rw [hW, goB_yes (hgo.resolve_left (by decide))]
        refine Go.Sl.L.off rfl rfl rfl rfl rfl rfl ?_
        refine Go.Sl.L.pu rfl rfl trivial (by first | exact pu_pick_t rfl rfl | exact pu_pick_f rfl rfl) ?_
        refine Go.Sl.L.pu rfl rfl trivial (pu_move rfl) ?_
        refine Go.Sl.L.off rfl rfl rfl rfl rfl rfl ?_
        refine Go.Sl.L.off rfl rfl rfl rfl rfl rfl ?_
        refine Go.Sl.L.off rfl rfl rfl rfl rfl rfl ?_
        refine Go.Sl.L.pu rfl rfl trivial (by first | exact pu_pick_t rfl rfl | exact pu_pick_f rfl rfl) ?_
        refine Go.Sl.L.pu rfl rfl trivial (pu_move rfl) ?_
        refine Go.Sl.L.off rfl rfl rfl rfl rfl rfl ?_
        refine Go.Sl.L.off rfl rfl rfl rfl rfl rfl ?_
        refine Go.Sl.L.off rfl rfl rfl rfl rfl rfl ?_
        refine Go.Sl.L.pu rfl rfl trivial (by first | exact pu_pick_t rfl rfl | exact pu_pick_f rfl rfl) ?_
        refine Go.Sl.L.nil ?_
        refine Gs.then_n ?_
        refine Gs.cond_f rfl ?_
        refine Gs.exit ?_
        refine Gs.then_x ?_
        refine Gs.then_x ?_
        refine Gs.blk_hit ?_
        refine Gs.then_n ?_
        refine Gs.seq ?_
        have hsl := stepP_length A B p
        subst hexit
        refine Gs.takes (As := [tre p1 A, tre p2 B]) (by repeat constructor) (Gs.toTwo ?_)
        refine Gs.reg ?_
        refine Go.Sl.L.pu rfl rfl trivial (pu_move rfl) ?_
        refine Go.Sl.L.pu rfl rfl trivial (pu_move rfl) ?_
        refine Go.Sl.L.rd rfl rfl trivial (rd_lda ag_49 rfl (Rdc.cl 3 (by repeat constructor) rfl) rfl) ?_
        refine Go.Sl.L.ac rfl rfl trivial (as_call (step_spec (TrR.own p1 A).left (TrR.own p2 B).right p) (by repeat constructor) (by repeat constructor)) ?_
        rintro _ _ ⟨_, ⟨sa, sc, rfl, rfl⟩, rfl⟩
        refine Go.Sl.L.pu rfl rfl trivial (pu_assign rfl) ?_
        refine Go.Sl.L.nil ?_
        refine Gs.then_n ?_
        refine Gs.seq ?_
        refine Gs.seq ?_
        refine Gs.reg ?_
        refine Go.Sl.L.pu rfl rfl trivial (pu_move rfl) ?_
        refine Go.Sl.L.pu rfl rfl trivial (pu_len Tryd.underlying50 rfl) ?_
        refine Go.Sl.L.pu rfl rfl trivial (pu_move rfl) ?_
        refine Go.Sl.L.pu rfl rfl trivial (pu_len Tryd.underlying50 rfl) ?_
        refine Go.Sl.L.pu rfl rfl trivial (pu_ne rfl rfl) ?_
        refine Go.Sl.L.nil ?_
        refine Gs.then_n ?_
        refine Gs.cond_ff rfl (decide_eq_false (by simp)) ?_
        refine Gs.skip ?_
        refine Gs.then_n ?_
        refine Gs.seq ?_
        refine Gs.seq ?_
        refine Gs.slAddr (SlH.own (by repeat constructor) : SlH _ _ 3 partC sa (stepP A B p)) fun ab ao ha => ?_
        refine Gs.slAddr (SlH.own (by repeat constructor) : SlH _ _ 3 partC wa (stepP A B p)) fun ub uo hu => ?_
        refine Gs.reg ?_
        refine Go.Sl.L.pu rfl rfl trivial (pu_assign rfl) ?_
        refine Go.Sl.L.nil ?_
        refine Gs.then_n ?_
        refine Gs.block ?_
        refine Gs.loop1 (fun i : Nat => i ≤ (stepP A B p).length) (fun i => [(11, .slice wa (stepP A B p).length wc), (21, .slice sa (stepP A B p).length sc), (22, int i)]) (fun i => [ro h0, sl 49 3 partC sa sc (stepP A B p), sl 49 3 partC wa wc (stepP A B p)] ++ R) (fun i => (stepP A B p).length - i) 0 (Nat.zero_le _) (by repeat constructor) (by repeat constructor) (fun i hi => ?_)
        refine Gs.seq ?_
        refine Gs.seq ?_
        refine Gs.reg ?_
        refine Go.Sl.L.pu rfl rfl trivial (pu_move rfl) ?_
        refine Go.Sl.L.pu rfl rfl trivial (pu_move rfl) ?_
        refine Go.Sl.L.pu rfl rfl trivial (pu_len Tryd.underlying50 rfl) ?_
        refine Go.Sl.L.pu rfl rfl trivial (pu_lt rfl rfl) ?_
        refine Go.Sl.L.nil ?_
        refine Gs.then_n ?_
        refine Gs.cond rfl (fun hc5 => ?_) (fun hc5 => ?_)
        · skip
          have hlt : i < (stepP A B p).length := by have := of_decide_eq_true hc5; omega
          obtain ⟨x, hx⟩ : ∃ x, (stepP A B p)[i]? = some x := ⟨(stepP A B p)[i], by simp [hlt]⟩
          obtain rfl := ha (by intro e; rw [e] at hx; simp at hx)
          obtain rfl := hu (by intro e; rw [e] at hx; simp at hx)
          refine Gs.skip ?_
          refine Gs.then_n ?_
          refine Gs.seq ?_
          refine Gs.block ?_
          refine Gs.seq ?_
          refine Gs.regD mixed (by kernel_rfl) ?_
          refine Rg.pu 0 rfl rfl (by kernel_rfl) trivial (pu_move rfl) ?_
          refine Rg.pu 1 rfl rfl (by kernel_rfl) trivial (pu_move rfl) ?_
          refine Rg.pu 2 rfl rfl (by kernel_rfl) trivial (pu_ia se_50 rfl rfl (by omega) (by omega)) ?_
          refine Rg.rd 3 rfl rfl (by kernel_rfl) trivial (rd_lda ag_49 rfl (Rdc.el0 (SlH.own (by repeat constructor)) hx rfl rfl) rfl) ?_
          refine Rg.pu 4 rfl rfl (by kernel_rfl) trivial (pu_move rfl) ?_
          refine Rg.pu 5 rfl rfl (by kernel_rfl) trivial (pu_move rfl) ?_
          refine Rg.pu 6 rfl rfl (by kernel_rfl) trivial (pu_ia se_50 rfl rfl (by omega) (by omega)) ?_
          refine Rg.rd 7 rfl rfl (by kernel_rfl) trivial (rd_lda ag_49 rfl (Rdc.el0 (SlH.own (by repeat constructor)) hx rfl rfl) rfl) ?_
          refine Rg.pu 8 rfl rfl (by kernel_rfl) trivial (pu_neT (a := x) (b := x) cmp_49 (by decide) Tryd.eqGuardType49 rfl rfl) ?_
          refine Rg.end (by kernel_rfl) ?_
          refine Gs.then_n ?_
          refine Gs.cond_ff rfl (by simp) ?_
          refine Gs.skip ?_
          refine Gs.blk_n ?_
          refine Gs.then_n ?_
          refine Gs.reg ?_
          refine Go.Sl.L.pu rfl rfl trivial (pu_move rfl) ?_
          refine Go.Sl.L.pu rfl rfl trivial (by first | exact pu_addI rfl rfl rfl (by omega) (by omega) | exact pu_add rfl rfl) ?_
          refine Go.Sl.L.pu rfl rfl trivial (pu_assign rfl) ?_
          refine Go.Sl.L.nil ?_
          refine Gs.then_n ?_
          exact Gs.again1 (i + 1) (by omega) (by omega) (by repeat constructor) (by repeat constructor)
        · skip
          refine Gs.exit ?_
          refine Gs.then_x ?_
          refine Gs.then_x ?_
          refine Gs.blk_hit ?_
          refine Gs.then_n ?_
          refine Gs.seq ?_
          refine Gs.reg ?_
          refine Go.Sl.L.ac rfl rfl trivial (as_call (awake_spec T) (by repeat constructor) (by repeat constructor)) ?_
          rintro _ _ ⟨_, ⟨rfl, rfl⟩, rfl⟩
          refine Go.Sl.L.pu rfl rfl trivial (pu_assign rfl) ?_
          refine Go.Sl.L.nil ?_
          refine Gs.then_n ?_
          refine Gs.ret ?_
          exact Gs.fin1 Tryd.results4 rfl _ (⟨rfl, rfl⟩) (by repeat constructor)
end Go.Proofs.YthlnjkfahmebjaaDoor
