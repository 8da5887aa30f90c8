/- Walk: segment.Read. -/
import Derived.Test.YtjaafkakeccniaaGreatDoorSege
namespace Go.Proofs.YtjaafkakeccniaaGreatDoor
open Go Go.Sl Go.Gv
set_option maxRecDepth 100000
theorem next_ways {S : HProp} {H' : List HProp} {m : Nat} {x : List UInt8} (v : Value) (H'' : List HProp) :
    (∃ hs, (∃ a' c', v = nextV m (nextB x) a' c' ∧ hs = S :: nextH (nextB x) a' c') ∧ H'' = hs ++ H') →
    (nextB x = none ∧ v = .tuple #[int 0, .slice none 0 0, int 0, .bool false] ∧ H'' = S :: H') ∨
    (∃ k held len a' c', nextB x = some (k, held, len) ∧ v = .tuple #[int (k : Nat), .slice a' held.length c', int ((m + len : Nat) : Int), .bool true] ∧ H'' = S :: sl 5 1 byteC a' c' held :: H') := by
  rintro ⟨_, ⟨a', c', rfl, rfl⟩, rfl⟩
  cases hx : nextB x with
  | none => exact .inl ⟨rfl, rfl, rfl⟩
  | some y => obtain ⟨k, held, len⟩ := y; exact .inr ⟨k, held, len, a', c', rfl, rfl, rfl⟩
theorem readS_stop {n : Int} {f k len : Nat} {first : Bool} {x held : List UInt8} (hx : nextB x = some (k, held, len)) (h : decide (k = 1) ≠ first ∨ readEn k held = none ∨ ∃ e, readEn k held = some e ∧ mayE e n = false) : readS n f first x = ([], 0) := by
  cases f with
  | zero => rfl
  | succ f =>
    rw [readS, hx]
    dsimp only
    by_cases h1 : decide (k = 1) ≠ first
    · rw [if_pos h1]
    · rw [if_neg h1]
      rcases h with h | h | ⟨e, h, h2⟩
      · exact (h1 h).elim
      · rw [h]
      · rw [h]; dsimp only; rw [if_neg (by rw [h2]; decide)]
theorem readS_go {n : Int} {f k len : Nat} {first : Bool} {x held : List UInt8} {e : EntP} (hx : nextB x = some (k, held, len)) (h1 : decide (k = 1) = first) (h2 : readEn k held = some e) (h3 : mayE e n = true) :
    readS n (f + 1) first x = (e :: (readS n f false (x.drop len)).1, len + (readS n f false (x.drop len)).2) := by
  rw [readS, hx]
  dsimp only
  rw [if_neg (fun h => h h1), h2]
  dsimp only
  rw [if_pos h3]
theorem segRead_spec {S Tx : HProp} {a : Option Addr} {c : Nat} {bs : List UInt8} (hS : Srd S 1 byteC a bs) (hT : RMs Tx) (hl : bs.length ≤ 1048576) (hc : bs.length ≤ c) (n : Int) :
    Ct Tryz.prog 56 [.slice a bs.length c, int n] [S, Tx]
      (fun v hs => ∃ a' c' es, v = .tuple #[.slice a' es.length c', int (readS n bs.length true bs).2] ∧ plainV es = (readS n bs.length true bs).1 ∧ hs = [S, Tx, elO a' c' es]) := by
  refine Ct.intro Tryz.func56 rfl (by kernel_rfl) 64 Tryz.ntmps56 (Nat.le_of_ble_eq_true rfl) fun w0 R => ?_
  refine Gs.seq ?_
  refine Gs.reg ?_
  refine Go.Sl.L.pu rfl rfl trivial (pu_assign rfl) ?_
  refine Go.Sl.L.pu rfl rfl trivial (pu_assign rfl) ?_
  refine Go.Sl.L.nil ?_
  refine Gs.then_n ?_
  refine Gs.seq ?_
  refine Gs.reg ?_
  refine Go.Sl.L.pu rfl rfl trivial (pu_assign rfl) ?_
  refine Go.Sl.L.nil ?_
  refine Gs.then_n ?_
  refine Gs.seq ?_
  refine Gs.reg ?_
  refine Go.Sl.L.pu rfl rfl trivial (pu_assign rfl) ?_
  refine Go.Sl.L.nil ?_
  refine Gs.slNil 43 8 entC ?_
  refine Gs.bigNil ?_
  refine Gs.then_n ?_
  refine Gs.block ?_
  refine Gs.loop1 (fun s : Nat × List EntV × Option Addr × Nat => s.1 ≤ bs.length ∧ 12 * s.2.1.length ≤ s.1 ∧ (s.1 = 0 ↔ s.2.1 = []) ∧ readS n bs.length true bs = (plainV s.2.1 ++ (readS n (bs.length - s.2.1.length) (decide (s.1 = 0)) (bs.drop s.1)).1, s.1 + (readS n (bs.length - s.2.1.length) (decide (s.1 = 0)) (bs.drop s.1)).2)) (fun s => [(0, .slice a bs.length c), (1, int n), (6, .slice s.2.2.1 s.2.1.length s.2.2.2), (7, int s.1)]) (fun s => [S, Tx, sl 43 8 entC s.2.2.1 s.2.2.2 s.2.1, big (s.2.1.map entO)] ++ R) (fun s => bs.length - s.1) (0, [], none, 0) (⟨Nat.zero_le _, Nat.zero_le _, Iff.intro (fun _ => rfl) (fun _ => rfl), by simp⟩) (by repeat constructor) (by repeat constructor) (fun s hs => ?_)
  obtain ⟨m, es, ca, cc⟩ := s
  obtain ⟨hm, hml, hm0, hrd⟩ := hs
  dsimp only at hm hml hm0 hrd ⊢
  have hesl : es.length ≤ 100000 := by omega
  refine Gs.block ?_
  refine Gs.seq ?_
  refine Gs.reg ?_
  refine Go.Sl.L.pu rfl rfl trivial (pu_move rfl) ?_
  refine Go.Sl.L.pu rfl rfl trivial (pu_move rfl) ?_
  refine Go.Sl.L.ac rfl rfl trivial ((as_call (next_spec hS hl hc m hm) (by repeat constructor) (by repeat constructor)).mono next_ways) ?_
  rintro _ _ (⟨hnx, rfl, rfl⟩ | ⟨k, held, len, na, nc, hnx, rfl, rfl⟩)
  · skip
    have hstop : readS n (bs.length - es.length) (decide (m = 0)) (bs.drop m) = ([], 0) := readS_none hnx
    refine Go.Sl.L.pu rfl rfl trivial (pu_move rfl) ?_
    refine Go.Sl.L.pu rfl rfl trivial (pu_extract rfl rfl) ?_
    refine Go.Sl.L.pu rfl rfl trivial (pu_extract rfl rfl) ?_
    refine Go.Sl.L.pu rfl rfl trivial (pu_extract rfl rfl) ?_
    refine Go.Sl.L.pu rfl rfl trivial (pu_extract rfl rfl) ?_
    refine Go.Sl.L.pu rfl rfl trivial (pu_assign rfl) ?_
    refine Go.Sl.L.pu rfl rfl trivial (pu_assign rfl) ?_
    refine Go.Sl.L.pu rfl rfl trivial (pu_assign rfl) ?_
    refine Go.Sl.L.pu rfl rfl trivial (pu_assign rfl) ?_
    refine Go.Sl.L.nil ?_
    refine Gs.then_n ?_
    refine Gs.seq ?_
    refine Gs.seq ?_
    refine Gs.reg ?_
    refine Go.Sl.L.pu rfl rfl trivial (pu_move rfl) ?_
    refine Go.Sl.L.pu rfl rfl trivial (pu_not rfl) ?_
    refine Go.Sl.L.pu rfl rfl trivial (pu_move rfl) ?_
    refine Go.Sl.L.off rfl rfl rfl rfl rfl rfl ?_
    refine Go.Sl.L.off rfl rfl rfl rfl rfl rfl ?_
    refine Go.Sl.L.off rfl rfl rfl rfl rfl rfl ?_
    refine Go.Sl.L.off rfl rfl rfl rfl rfl rfl ?_
    refine Go.Sl.L.off rfl rfl rfl rfl rfl rfl ?_
    refine Go.Sl.L.pu rfl rfl trivial (by first | exact pu_pick_t rfl rfl | exact pu_pick_f rfl rfl) ?_
    refine Go.Sl.L.nil ?_
    refine Gs.then_n ?_
    refine Gs.cond_t rfl ?_
    refine Gs.seq ?_
    refine Gs.reg ?_
    refine Go.Sl.L.pu rfl rfl trivial (pu_move rfl) ?_
    refine Go.Sl.L.pu rfl rfl trivial (pu_move rfl) ?_
    refine Go.Sl.L.pu rfl rfl trivial (pu_assign rfl) ?_
    refine Go.Sl.L.pu rfl rfl trivial (pu_assign rfl) ?_
    refine Go.Sl.L.nil ?_
    refine Gs.then_n ?_
    refine Gs.ret ?_
    refine Gs.then_r ?_
    refine Gs.blk_r ?_
    refine Gs.then_r ?_
    refine Gs.blk_r ?_
    refine Gs.takes (As := [sl 43 8 entC ca cc es, big (es.map entO)]) (by repeat constructor) (Gs.toTwo ?_)
    exact Gs.fin2 Tryz.results56 rfl rfl _ (⟨ca, cc, es, by rw [hrd, hstop]; rfl, by rw [hrd, hstop, List.append_nil], rfl⟩) (by repeat constructor)
  · skip
    obtain ⟨hl12, hlx, hk1, hk2, hhl⟩ := next_len hnx
    rw [List.length_drop] at hlx
    refine Gs.slLen (E := 5) (sz := 1) (enc := byteC) (a := na) (c := nc) (xs := held) (by repeat constructor) fun hnc => ?_
    refine Go.Sl.L.pu rfl rfl trivial (pu_move rfl) ?_
    refine Go.Sl.L.pu rfl rfl trivial (pu_extract rfl rfl) ?_
    refine Go.Sl.L.pu rfl rfl trivial (pu_extract rfl rfl) ?_
    refine Go.Sl.L.pu rfl rfl trivial (pu_extract rfl rfl) ?_
    refine Go.Sl.L.pu rfl rfl trivial (pu_extract rfl rfl) ?_
    refine Go.Sl.L.pu rfl rfl trivial (pu_assign rfl) ?_
    refine Go.Sl.L.pu rfl rfl trivial (pu_assign rfl) ?_
    refine Go.Sl.L.pu rfl rfl trivial (pu_assign rfl) ?_
    refine Go.Sl.L.pu rfl rfl trivial (pu_assign rfl) ?_
    refine Go.Sl.L.nil ?_
    refine Gs.then_n ?_
    refine Gs.seq ?_
    refine Gs.seq ?_
    refine Gs.reg ?_
    refine Go.Sl.L.pu rfl rfl trivial (pu_move rfl) ?_
    refine Go.Sl.L.pu rfl rfl trivial (pu_not rfl) ?_
    refine Go.Sl.L.pu rfl rfl trivial (pu_move rfl) ?_
    refine Go.Sl.L.pu rfl rfl ⟨_, rfl, rfl⟩ (pu_move rfl) ?_
    refine Go.Sl.L.pu rfl rfl ⟨_, rfl, rfl⟩ (pu_eq rfl rfl) ?_
    refine Go.Sl.L.pu rfl rfl ⟨_, rfl, rfl⟩ (pu_move rfl) ?_
    refine Go.Sl.L.pu rfl rfl ⟨_, rfl, rfl⟩ (pu_eq rfl rfl) ?_
    refine Go.Sl.L.pu rfl rfl ⟨_, rfl, rfl⟩ (pu_neB Tryz.underlying4 rfl rfl) ?_
    refine Go.Sl.L.pu rfl rfl trivial (by first | exact pu_pick_t rfl rfl | exact pu_pick_f rfl rfl) ?_
    refine Go.Sl.L.nil ?_
    refine Gs.then_n ?_
    refine Gs.cond rfl (fun hc0 => ?_) (fun hc0 => ?_)
    · skip
      have hstop : readS n (bs.length - es.length) (decide (m = 0)) (bs.drop m) = ([], 0) := readS_stop hnx (.inl fun e => by
        have h1 : decide ((k : Int) = 1) = decide (k = 1) := decide_eq_decide.2 ⟨fun h => by omega, fun h => by omega⟩
        have h2 : decide ((m : Int) = 0) = decide (m = 0) := decide_eq_decide.2 ⟨fun h => by omega, fun h => by omega⟩
        rw [h1, h2, e] at hc0
        simp at hc0)
      refine Gs.seq ?_
      refine Gs.reg ?_
      refine Go.Sl.L.pu rfl rfl trivial (pu_move rfl) ?_
      refine Go.Sl.L.pu rfl rfl trivial (pu_move rfl) ?_
      refine Go.Sl.L.pu rfl rfl trivial (pu_assign rfl) ?_
      refine Go.Sl.L.pu rfl rfl trivial (pu_assign rfl) ?_
      refine Go.Sl.L.nil ?_
      refine Gs.then_n ?_
      refine Gs.ret ?_
      refine Gs.then_r ?_
      refine Gs.blk_r ?_
      refine Gs.then_r ?_
      refine Gs.blk_r ?_
      refine Gs.takes (As := [sl 43 8 entC ca cc es, big (es.map entO)]) (by repeat constructor) (Gs.toTwo ?_)
      exact Gs.fin2 Tryz.results56 rfl rfl _ (⟨ca, cc, es, by rw [hrd, hstop]; rfl, by rw [hrd, hstop, List.append_nil], rfl⟩) (by repeat constructor)
    · skip
      have hfirst : decide (k = 1) = decide (m = 0) := by
        have h1 : decide ((k : Int) = 1) = decide (k = 1) := decide_eq_decide.2 ⟨fun h => by omega, fun h => by omega⟩
        have h2 : decide ((m : Int) = 0) = decide (m = 0) := decide_eq_decide.2 ⟨fun h => by omega, fun h => by omega⟩
        rw [h1, h2] at hc0
        simpa using hc0
      refine Gs.skip ?_
      refine Gs.then_n ?_
      refine Gs.seq ?_
      refine Gs.reg ?_
      refine Go.Sl.L.pu rfl rfl trivial (pu_move rfl) ?_
      refine Go.Sl.L.pu rfl rfl trivial (pu_build bd_131 (by repeat constructor) rfl) ?_
      refine Go.Sl.L.ac rfl rfl trivial (ac_box rfl rfl) ?_
      rintro _ _ ⟨xb, rfl, rfl⟩
      refine Go.Sl.L.pu rfl rfl trivial (pu_assign rfl) ?_
      refine Go.Sl.L.nil ?_
      refine Gs.then_n ?_
      refine Gs.seq ?_
      refine Gs.reg ?_
      refine Go.Sl.L.pu rfl rfl trivial (pu_move rfl) ?_
      refine Go.Sl.L.pu rfl rfl trivial (pu_move rfl) ?_
      refine Go.Sl.L.ac rfl rfl trivial (as_call (entry_spec (S := sl 5 1 byteC na nc held) Srd.own hT (by omega) hnc k) (by repeat constructor) (by repeat constructor)) ?_
      rintro _ _ ⟨_, ⟨e, ra, rl, rc, bad, rfl, hres, rfl⟩, rfl⟩
      refine Go.Sl.L.ac rfl rfl trivial (ac_alloc zv_43 rfl) ?_
      rintro _ _ ⟨eb, rfl, rfl⟩
      refine Go.Sl.L.ac0 rfl trivial (ac_st sz_43 rfl rfl (by repeat constructor) rfl rfl rfl rfl) ?_
      rintro _ _ rfl
      refine Go.Sl.L.nil ?_
      refine Gs.then_n ?_
      refine Gs.seq ?_
      refine Gs.seq ?_
      refine Gs.reg ?_
      refine Go.Sl.L.pu rfl rfl trivial (pu_move rfl) ?_
      refine Go.Sl.L.pu rfl rfl trivial (by first | exact pu_nil rfl | exact pu_nilF rfl) ?_
      refine Go.Sl.L.pu rfl rfl trivial (pu_fa fa_131_1 rfl) ?_
      refine Go.Sl.L.rd rfl rfl trivial (rd_ld na_4 rfl (Rdc.cl1 (by repeat constructor) rfl)) ?_
      refine Go.Sl.L.puB rfl rfl trivial (pu_move rfl) (fun hg4 => ?_) (fun hg4 => ?_)
      · skip
        have hstop : readS n (bs.length - es.length) (decide (m = 0)) (bs.drop m) = ([], 0) := readS_stop hnx (.inr (by
          rcases hres with ⟨-, h, -⟩ | ⟨h, -⟩
          · rw [hg4] at h; cases h
          · exact .inl h))
        refine Go.Sl.L.off rfl rfl rfl rfl rfl rfl ?_
        refine Go.Sl.L.off rfl rfl rfl rfl rfl rfl ?_
        refine Go.Sl.L.off rfl rfl rfl rfl rfl rfl ?_
        refine Go.Sl.L.off rfl rfl rfl rfl rfl rfl ?_
        refine Go.Sl.L.off rfl rfl rfl rfl rfl rfl ?_
        refine Go.Sl.L.off rfl rfl rfl rfl rfl rfl ?_
        refine Go.Sl.L.pu rfl rfl trivial (by first | exact pu_pick_t rfl rfl | exact pu_pick_f rfl rfl) ?_
        refine Go.Sl.L.pu rfl rfl trivial (pu_move rfl) ?_
        refine Go.Sl.L.off rfl rfl rfl rfl rfl rfl ?_
        refine Go.Sl.L.off rfl rfl rfl rfl rfl rfl ?_
        refine Go.Sl.L.off rfl rfl rfl rfl rfl rfl ?_
        refine Go.Sl.L.off rfl rfl rfl rfl rfl rfl ?_
        refine Go.Sl.L.pu rfl rfl trivial (by first | exact pu_pick_t rfl rfl | exact pu_pick_f rfl rfl) ?_
        refine Go.Sl.L.nil ?_
        refine Gs.then_n ?_
        refine Gs.cond_t rfl ?_
        refine Gs.seq ?_
        refine Gs.reg ?_
        refine Go.Sl.L.pu rfl rfl trivial (pu_move rfl) ?_
        refine Go.Sl.L.pu rfl rfl trivial (pu_move rfl) ?_
        refine Go.Sl.L.pu rfl rfl trivial (pu_assign rfl) ?_
        refine Go.Sl.L.pu rfl rfl trivial (pu_assign rfl) ?_
        refine Go.Sl.L.nil ?_
        refine Gs.then_n ?_
        refine Gs.ret ?_
        refine Gs.then_r ?_
        refine Gs.blk_r ?_
        refine Gs.then_r ?_
        refine Gs.blk_r ?_
        refine Gs.takes (As := [sl 43 8 entC ca cc es, big (es.map entO)]) (by repeat constructor) (Gs.toTwo ?_)
        exact Gs.fin2 Tryz.results56 rfl rfl _ (⟨ca, cc, es, by rw [hrd, hstop]; rfl, by rw [hrd, hstop, List.append_nil], rfl⟩) (by repeat constructor)
      · skip
        refine Go.Sl.L.pu rfl rfl ⟨_, rfl, rfl⟩ (pu_move rfl) ?_
        refine Go.Sl.L.pu rfl rfl ⟨_, rfl, rfl⟩ (by first | exact pu_nil rfl | exact pu_nilF rfl) ?_
        refine Go.Sl.L.pu rfl rfl ⟨_, rfl, rfl⟩ (pu_fa fa_131_0 rfl) ?_
        refine Go.Sl.L.rd rfl rfl ⟨_, rfl, rfl⟩ (rd_ld na_75 rfl (Rdc.cl1 (by repeat constructor) rfl)) ?_
        refine Go.Sl.L.pu rfl rfl ⟨_, rfl, rfl⟩ (pu_len Tryz.underlying75 rfl) ?_
        refine Go.Sl.L.pu rfl rfl ⟨_, rfl, rfl⟩ (pu_gt rfl rfl) ?_
        refine Go.Sl.L.pu rfl rfl trivial (by first | exact pu_pick_t rfl rfl | exact pu_pick_f rfl rfl) ?_
        refine Go.Sl.L.puB rfl rfl trivial (pu_move rfl) (fun hg12 => ?_) (fun hg12 => ?_)
        · skip
          have hstop : readS n (bs.length - es.length) (decide (m = 0)) (bs.drop m) = ([], 0) := readS_stop hnx (.inr (by
            rcases hres with ⟨-, -, h⟩ | ⟨h, -⟩
            · have := of_decide_eq_true hg12; omega
            · exact .inl h))
          refine Go.Sl.L.off rfl rfl rfl rfl rfl rfl ?_
          refine Go.Sl.L.off rfl rfl rfl rfl rfl rfl ?_
          refine Go.Sl.L.off rfl rfl rfl rfl rfl rfl ?_
          refine Go.Sl.L.off rfl rfl rfl rfl rfl rfl ?_
          refine Go.Sl.L.pu rfl rfl trivial (by first | exact pu_pick_t rfl rfl | exact pu_pick_f rfl rfl) ?_
          refine Go.Sl.L.nil ?_
          refine Gs.then_n ?_
          refine Gs.cond_t rfl ?_
          refine Gs.seq ?_
          refine Gs.reg ?_
          refine Go.Sl.L.pu rfl rfl trivial (pu_move rfl) ?_
          refine Go.Sl.L.pu rfl rfl trivial (pu_move rfl) ?_
          refine Go.Sl.L.pu rfl rfl trivial (pu_assign rfl) ?_
          refine Go.Sl.L.pu rfl rfl trivial (pu_assign rfl) ?_
          refine Go.Sl.L.nil ?_
          refine Gs.then_n ?_
          refine Gs.ret ?_
          refine Gs.then_r ?_
          refine Gs.blk_r ?_
          refine Gs.then_r ?_
          refine Gs.blk_r ?_
          refine Gs.takes (As := [sl 43 8 entC ca cc es, big (es.map entO)]) (by repeat constructor) (Gs.toTwo ?_)
          exact Gs.fin2 Tryz.results56 rfl rfl _ (⟨ca, cc, es, by rw [hrd, hstop]; rfl, by rw [hrd, hstop, List.append_nil], rfl⟩) (by repeat constructor)
        · skip
          have hrl : rl = 0 := by have := of_decide_eq_false hg12; omega
          refine Go.Sl.L.rd rfl rfl ⟨_, rfl, rfl⟩ (rd_lda ag_43 rfl (Rdc.cl 8 (by repeat constructor) rfl) rfl) ?_
          refine Go.Sl.L.pu rfl rfl ⟨_, rfl, rfl⟩ (pu_move rfl) ?_
          refine Go.Sl.L.ac rfl rfl ⟨_, rfl, rfl⟩ (as_call ((segMay_spec (U := two (entO e) Tx) (evd_entO e).two1 (hT.inn Inn.two2) n).two0) (by repeat constructor) (by repeat constructor)) ?_
          rintro _ _ ⟨_, ⟨rfl, rfl⟩, rfl⟩
          refine Go.Sl.L.pu rfl rfl ⟨_, rfl, rfl⟩ (pu_not rfl) ?_
          refine Go.Sl.L.pu rfl rfl trivial (by first | exact pu_pick_t rfl rfl | exact pu_pick_f rfl rfl) ?_
          refine Go.Sl.L.nil ?_
          refine Gs.then_n ?_
          refine Gs.cond rfl (fun hc1 => ?_) (fun hc1 => ?_)
          · skip
            have hstop : readS n (bs.length - es.length) (decide (m = 0)) (bs.drop m) = ([], 0) := readS_stop hnx (.inr (by
              rcases hres with ⟨h, -, -⟩ | ⟨h, -⟩
              · exact .inr ⟨_, h, by simpa using hc1⟩
              · exact .inl h))
            refine Gs.seq ?_
            refine Gs.reg ?_
            refine Go.Sl.L.pu rfl rfl trivial (pu_move rfl) ?_
            refine Go.Sl.L.pu rfl rfl trivial (pu_move rfl) ?_
            refine Go.Sl.L.pu rfl rfl trivial (pu_assign rfl) ?_
            refine Go.Sl.L.pu rfl rfl trivial (pu_assign rfl) ?_
            refine Go.Sl.L.nil ?_
            refine Gs.then_n ?_
            refine Gs.ret ?_
            refine Gs.then_r ?_
            refine Gs.blk_r ?_
            refine Gs.then_r ?_
            refine Gs.blk_r ?_
            refine Gs.takes (As := [sl 43 8 entC ca cc es, big (es.map entO)]) (by repeat constructor) (Gs.toTwo ?_)
            exact Gs.fin2 Tryz.results56 rfl rfl _ (⟨ca, cc, es, by rw [hrd, hstop]; rfl, by rw [hrd, hstop, List.append_nil], rfl⟩) (by repeat constructor)
          · skip
            have hmay : mayE e.p n = true := by simpa using hc1
            have hen : readEn k held = some e.p := by
              rcases hres with ⟨h, -, -⟩ | ⟨-, h⟩
              · exact h
              · rcases h with h | h | h
                · rw [hg4] at h; cases h
                · omega
                · rw [h n] at hmay; cases hmay
            have hf : bs.length - es.length = (bs.length - (es ++ [e]).length) + 1 := by rw [List.length_append, List.length_cons, List.length_nil]; omega
            have hgo : readS n (bs.length - es.length) (decide (m = 0)) (bs.drop m) = (e.p :: (readS n (bs.length - (es ++ [e]).length) false (bs.drop (m + len))).1, len + (readS n (bs.length - (es ++ [e]).length) false (bs.drop (m + len))).2) := by
              rw [hf, readS_go hnx hfirst hen hmay, List.drop_drop]
            have hst : readS n bs.length true bs = (plainV (es ++ [e]) ++ (readS n (bs.length - (es ++ [e]).length) (decide (m + len = 0)) (bs.drop (m + len))).1, (m + len) + (readS n (bs.length - (es ++ [e]).length) (decide (m + len = 0)) (bs.drop (m + len))).2) := by
              rw [decide_eq_false (by omega : ¬ m + len = 0), hrd, hgo]
              refine Prod.ext ?_ ?_
              · show plainV es ++ e.p :: _ = plainV (es ++ [e]) ++ _
                rw [show plainV (es ++ [e]) = plainV es ++ [e.p] by simp [plainV], List.append_assoc]; rfl
              · show m + (len + _) = m + len + _
                omega
            refine Gs.skip ?_
            refine Gs.then_n ?_
            refine Gs.reg ?_
            refine Go.Sl.L.pu rfl rfl trivial (pu_move rfl) ?_
            refine Go.Sl.L.rd rfl rfl trivial (rd_lda ag_43 rfl (Rdc.cl 8 (by repeat constructor) rfl) rfl) ?_
            refine Go.Sl.L.ac rfl rfl trivial (ac_lit encC_43 ([e]) et_22 ek_43 rfl (by repeat constructor) rfl rfl (by decide)) ?_
            rintro _ _ ⟨a61, rfl, rfl⟩
            refine Go.Sl.L.ac rfl rfl trivial (ac_append (xs := es) (ys := [e]) et_22 ek_43 rfl rfl (by repeat constructor) (SrcH.sl Tryz.underlying22 ek_43 (SlH.own (by repeat constructor))) (by first | omega | (simp; omega)) (by first | omega | (simp; omega))) ?_
            rintro _ _ ⟨a62, c62, rfl, rfl⟩
            refine Go.Sl.L.pu rfl rfl trivial (pu_move rfl) ?_
            refine Go.Sl.L.pu rfl rfl trivial (pu_assign rfl) ?_
            refine Go.Sl.L.pu rfl rfl trivial (pu_assign rfl) ?_
            refine Go.Sl.L.nil ?_
            refine Gs.takes (As := [entO e, big (es.map entO)]) (by repeat constructor) (Gs.bigBack take_snoc ?_)
            rw [show es.map entO ++ [entO e] = (es ++ [e]).map entO by simp]
            refine Gs.blk_n ?_
            refine Gs.then_n ?_
            exact Gs.again1 (m + len, es ++ [e], a62, c62) ⟨by show m + len ≤ bs.length; omega, by show 12 * (es ++ [e]).length ≤ m + len; rw [List.length_append, List.length_cons, List.length_nil]; omega, ⟨fun h => by exfalso; have : m + len = 0 := h; omega, fun h => by exfalso; simp at h⟩, hst⟩ (by show bs.length - (m + len) < bs.length - m; omega) (by repeat constructor) (by repeat constructor)
end Go.Proofs.YtjaafkakeccniaaGreatDoor
