/- Walk: IndexPrefixes (grapevinelaw11). -/
import Derived.Test.YtmbikfojljnnkaaGreatDoorIx4
namespace Go.Proofs.YtmbikfojljnnkaaGreatDoor
open Go Go.Sl Go.Gv Go.Kv Go.Po Go.Ix Go.Bst
set_option maxRecDepth 100000
/-- How many places the words have that begin so. -/
def preN (q : ByteArray) (P : PL) (ws : List ByteArray) : Nat := (ws.map fun v => if preB v q then placesL ((mget P v).getD []) else 0).sum
theorem prefixes_spec {h0 : Hp} (T : TabX h0) {a : Option Addr} {c : Nat} {xs : List Rec} (hx : slR h0 5 recC a xs) (hxl : xs.length ≤ 9223372036854775807) (q : ByteArray) :
    Ct Tryz.prog 6 [.slice a xs.length c, .string q] [ro h0] (fun v hs => v = .bool true ∧ hs = [ro h0]) := by
  refine Ct.intro Tryz.func6 rfl (by kernel_rfl) 153 Tryz.ntmps6 (Nat.le_of_ble_eq_true rfl) fun w0 R => ?_
  refine Gs.slAddr ((Srd.ro hx).h (by repeat constructor)) fun ab ao ha => ?_
  refine Gs.seq ?_
  refine Gs.reg ?_
  refine Go.Sl.L.pu rfl rfl trivial (pu_assign rfl) ?_
  refine Go.Sl.L.nil ?_
  refine Gs.then_n ?_
  refine Gs.seq ?_
  refine Gs.seq ?_
  refine Gs.reg ?_
  refine Go.Sl.L.pu rfl rfl trivial (pu_move rfl) ?_
  refine Go.Sl.L.ac rfl rfl trivial (as_call (greatRecords_spec (Srd.ro hx) hxl 20) (by repeat constructor) (by repeat constructor)) ?_
  rintro _ _ ⟨_, ⟨⟨g, rfl, hg⟩, rfl⟩, rfl⟩
  refine Go.Sl.L.puB rfl rfl trivial (pu_move rfl) (fun hg2 => ?_) (fun hg2 => ?_)
  · skip
    refine Go.Sl.L.off rfl rfl rfl rfl rfl rfl ?_
    refine Go.Sl.L.off rfl rfl rfl rfl rfl rfl ?_
    refine Go.Sl.L.off rfl rfl rfl rfl rfl rfl ?_
    refine Go.Sl.L.pu rfl rfl trivial (by first | exact pu_pick_t rfl rfl | exact pu_pick_f rfl rfl) ?_
    refine Go.Sl.L.pu rfl rfl trivial (pu_move rfl) ?_
    refine Go.Sl.L.off rfl rfl rfl rfl rfl rfl ?_
    refine Go.Sl.L.off rfl rfl rfl rfl rfl rfl ?_
    refine Go.Sl.L.pu rfl rfl trivial (by first | exact pu_pick_t rfl rfl | exact pu_pick_f rfl rfl) ?_
    refine Go.Sl.L.nil ?_
    refine Gs.then_n ?_
    refine Gs.cond_t rfl ?_
    refine Gs.seq ?_
    refine Gs.reg ?_
    refine Go.Sl.L.ac rfl rfl trivial (as_call (awake_spec T) (by repeat constructor) (by repeat constructor)) ?_
    rintro _ _ ⟨_, ⟨rfl, rfl⟩, rfl⟩
    refine Go.Sl.L.pu rfl rfl trivial (pu_assign rfl) ?_
    refine Go.Sl.L.nil ?_
    refine Gs.then_n ?_
    refine Gs.ret ?_
    refine Gs.then_r ?_
    exact Gs.fin1 Tryz.results6 rfl _ (⟨rfl, rfl⟩) (by repeat constructor)
  · skip
    refine Go.Sl.L.pu rfl rfl ⟨_, rfl, rfl⟩ (pu_move rfl) ?_
    refine Go.Sl.L.pu rfl rfl ⟨_, rfl, rfl⟩ (pu_lenS Tryz.underlying9 rfl) ?_
    refine Go.Sl.L.pu rfl rfl ⟨_, rfl, rfl⟩ (pu_gt rfl rfl) ?_
    refine Go.Sl.L.pu rfl rfl trivial (by first | exact pu_pick_t rfl rfl | exact pu_pick_f rfl rfl) ?_
    refine Go.Sl.L.puB rfl rfl trivial (pu_move rfl) (fun hg7 => ?_) (fun hg7 => ?_)
    · skip
      refine Go.Sl.L.off rfl rfl rfl rfl rfl rfl ?_
      refine Go.Sl.L.off rfl rfl rfl rfl rfl rfl ?_
      refine Go.Sl.L.pu rfl rfl trivial (by first | exact pu_pick_t rfl rfl | exact pu_pick_f rfl rfl) ?_
      refine Go.Sl.L.nil ?_
      refine Gs.then_n ?_
      refine Gs.cond_t rfl ?_
      refine Gs.seq ?_
      refine Gs.reg ?_
      refine Go.Sl.L.ac rfl rfl trivial (as_call (awake_spec T) (by repeat constructor) (by repeat constructor)) ?_
      rintro _ _ ⟨_, ⟨rfl, rfl⟩, rfl⟩
      refine Go.Sl.L.pu rfl rfl trivial (pu_assign rfl) ?_
      refine Go.Sl.L.nil ?_
      refine Gs.then_n ?_
      refine Gs.ret ?_
      refine Gs.then_r ?_
      exact Gs.fin1 Tryz.results6 rfl _ (⟨rfl, rfl⟩) (by repeat constructor)
    · skip
      refine Go.Sl.L.pu rfl rfl ⟨_, rfl, rfl⟩ (pu_move rfl) ?_
      refine Go.Sl.L.pu rfl rfl ⟨_, rfl, rfl⟩ (pu_eqS rfl rfl) ?_
      refine Go.Sl.L.pu rfl rfl trivial (by first | exact pu_pick_t rfl rfl | exact pu_pick_f rfl rfl) ?_
      refine Go.Sl.L.nil ?_
      refine Gs.then_n ?_
      refine Gs.cond rfl (fun hc0 => ?_) (fun hc0 => ?_)
      · skip
        refine Gs.seq ?_
        refine Gs.reg ?_
        refine Go.Sl.L.ac rfl rfl trivial (as_call (awake_spec T) (by repeat constructor) (by repeat constructor)) ?_
        rintro _ _ ⟨_, ⟨rfl, rfl⟩, rfl⟩
        refine Go.Sl.L.pu rfl rfl trivial (pu_assign rfl) ?_
        refine Go.Sl.L.nil ?_
        refine Gs.then_n ?_
        refine Gs.ret ?_
        refine Gs.then_r ?_
        exact Gs.fin1 Tryz.results6 rfl _ (⟨rfl, rfl⟩) (by repeat constructor)
      · skip
        have hxs : xs.length ≤ 20 := by have := hg hg2; omega
        refine Gs.skip ?_
        refine Gs.then_n ?_
        refine Gs.seq ?_
        refine Gs.reg ?_
        refine Go.Sl.L.ac rfl rfl trivial (as_call (new_spec) (by repeat constructor) (by repeat constructor)) ?_
        rintro _ _ ⟨_, ⟨x, rfl, rfl⟩, rfl⟩
        refine Go.Sl.L.pu rfl rfl trivial (pu_assign rfl) ?_
        refine Go.Sl.L.nil ?_
        refine Gs.then_n ?_
        refine Gs.seq ?_
        refine Gs.seq ?_
        refine Gs.reg ?_
        refine Go.Sl.L.pu rfl rfl trivial (pu_move rfl) ?_
        refine Go.Sl.L.pu rfl rfl trivial (pu_eqN Tryz.underlying25 rfl rfl) ?_
        refine Go.Sl.L.nil ?_
        refine Gs.then_n ?_
        refine Gs.cond_ff rfl rfl ?_
        refine Gs.skip ?_
        refine Gs.then_n ?_
        refine Gs.seq ?_
        refine Gs.seq ?_
        refine Gs.reg ?_
        refine Go.Sl.L.pu rfl rfl trivial (pu_assign rfl) ?_
        refine Go.Sl.L.nil ?_
        refine Gs.then_n ?_
        refine Gs.block ?_
        refine Gs.loop1 (fun s : Nat × List (ByteArray × SlV PostV) × List (Key × SlV ByteArray) => s.1 ≤ xs.length ∧ ∃ rs, IxIs rs (plL s.2.1, plW s.2.2) ∧ rs.length ≤ s.1 ∧ placesP (plL s.2.1) ≤ 121 * s.1) (fun s => [(0, .slice a xs.length c), (1, .string q), (5, ptr x), (6, int s.1)]) (fun s => [ixA x s.2.1 s.2.2, ro h0] ++ R) (fun s => xs.length - s.1) (0, [], []) (⟨Nat.zero_le _, [], IxIs.nil, Nat.zero_le _, Nat.zero_le _⟩) (by repeat constructor) (by repeat constructor) (fun s hs => ?_)
        obtain ⟨i, L, W⟩ := s
        obtain ⟨hi, rs, hL, hrl, hpl⟩ := hs
        dsimp only at hi hL hrl hpl ⊢
        have hsh := hL.short
        have hll := hL.llen
        have hwl := hL.rlen
        refine Gs.seq ?_
        refine Gs.seq ?_
        refine Gs.reg ?_
        refine Go.Sl.L.pu rfl rfl trivial (pu_move rfl) ?_
        refine Go.Sl.L.pu rfl rfl trivial (pu_move rfl) ?_
        refine Go.Sl.L.pu rfl rfl trivial (pu_len Tryz.underlying27 rfl) ?_
        refine Go.Sl.L.pu rfl rfl trivial (pu_lt rfl rfl) ?_
        refine Go.Sl.L.nil ?_
        refine Gs.then_n ?_
        refine Gs.cond rfl (fun hc2 => ?_) (fun hc2 => ?_)
        · skip
          have hlt : i < xs.length := by have := of_decide_eq_true hc2; omega
          obtain ⟨r, hr⟩ : ∃ z, xs[i]? = some z := ⟨xs[i], by simp [hlt]⟩
          obtain rfl := ha (by rintro rfl; simp at hlt)
          have ht := toks_le121 r
          refine Gs.skip ?_
          refine Gs.then_n ?_
          refine Gs.seq ?_
          refine Gs.block ?_
          refine Gs.reg ?_
          refine Go.Sl.L.pu rfl rfl trivial (pu_move rfl) ?_
          refine Go.Sl.L.pu rfl rfl trivial (pu_move rfl) ?_
          refine Go.Sl.L.pu rfl rfl trivial (pu_move rfl) ?_
          refine Go.Sl.L.pu rfl rfl trivial (pu_ia se_27 rfl rfl (by omega) (by omega)) ?_
          refine Go.Sl.L.rd rfl rfl trivial (rd_lda ag_35 rfl (Rdc.el0 ((Srd.ro hx).h (by repeat constructor)) hr rfl rfl) rfl) ?_
          refine Go.Sl.L.ac rfl rfl trivial (as_call (put_spec T x L W r (fun p hp => by have := hsh p hp; omega)) (by repeat constructor) (by repeat constructor)) ?_
          rintro _ _ ⟨_, ⟨L2, W2, rfl, hp, rfl⟩, rfl⟩
          refine Go.Sl.L.nil ?_
          have hL2 := hL.putI hp
          have hlr := putR_len rs r
          have hpl2 : placesP (plL L2) ≤ 121 * (i + 1) := by
            by_cases h0' : putN (plW W) r = 0
            · have e : placesP (plL L2) = placesP (plL L) + (toksV r.t).length := (hL.putI0 hp h0').2
              omega
            · have e : placesP (plL L2) = placesP (plL L) := congrArg (fun s : PL × PW => placesP s.1) (hL.putIn hp h0').2
              omega
          refine Gs.blk_n ?_
          refine Gs.then_n ?_
          refine Gs.reg ?_
          refine Go.Sl.L.pu rfl rfl trivial (pu_move rfl) ?_
          refine Go.Sl.L.pu rfl rfl trivial (by first | exact pu_addI rfl rfl rfl (by omega) (by omega) | exact pu_add rfl rfl) ?_
          refine Go.Sl.L.pu rfl rfl trivial (pu_assign rfl) ?_
          refine Go.Sl.L.nil ?_
          refine Gs.then_n ?_
          exact Gs.again1 (i + 1, L2, W2) ⟨hlt, putR rs r, hL2, by show (putR rs r).length ≤ i + 1; omega, hpl2⟩ (by show xs.length - (i + 1) < xs.length - i; omega) (by repeat constructor) (by repeat constructor)
        · skip
          have hge : i = xs.length := by have := of_decide_eq_false hc2; omega
          refine Gs.exit ?_
          refine Gs.then_x ?_
          refine Gs.then_x ?_
          refine Gs.blk_hit ?_
          refine Gs.then_n ?_
          refine Gs.seq ?_
          refine Gs.reg ?_
          refine Go.Sl.L.pu rfl rfl trivial (pu_move rfl) ?_
          refine Go.Sl.L.pu rfl rfl trivial (pu_move rfl) ?_
          refine Go.Sl.L.ac rfl rfl trivial (as_call (prefix_spec x L W q (by omega)) (by repeat constructor) (by repeat constructor)) ?_
          rintro _ _ ⟨_, ⟨pa, pc, ps, rfl, hpp, hpo, rfl⟩, rfl⟩
          refine Go.Sl.L.pu rfl rfl trivial (pu_assign rfl) ?_
          refine Go.Sl.L.nil ?_
          have hpo2 : (plain1 ps).Pairwise fun p q => before q.1 p.1 = false := List.pairwise_map.2 hpo
          obtain ⟨hpm, hpn, hpb, hpk⟩ := hL.pre q (l := plain1 ps) hpp hpo2
          have hpt := IxIs.pre_places (s := (plL L, plW W)) q (l := plain1 ps) hpp
          have hple := pre_le hL.ln q
          have hpsl : ps.length ≤ rs.length := by
            have := nodup_sub (m := rs.map Rec.key) hpn fun k hk => by
              obtain ⟨p, hpl', rfl⟩ := List.mem_map.1 hk
              obtain ⟨e, he, hxe⟩ := List.mem_map.1 (hpp.subset hpl')
              have h2 := (hL.pre_get q (sortB (mkeys (plL L))) [] List.nodup_nil (fun k hk => by cases hk)).2.1
              rw [← hxe]
              exact h2 e.1 (List.mem_map.2 ⟨e, he, rfl⟩)
            simpa using this
          refine Gs.then_n ?_
          refine Gs.seq ?_
          refine Gs.reg ?_
          refine Go.Sl.L.pu rfl rfl trivial (pu_assign rfl) ?_
          refine Go.Sl.L.nil ?_
          refine Gs.then_n ?_
          refine Gs.seq ?_
          refine Gs.reg ?_
          refine Go.Sl.L.pu rfl rfl trivial (pu_move rfl) ?_
          refine Go.Sl.L.ac rfl rfl trivial (as_call (words_spec x L W (by omega)) (by repeat constructor) (by repeat constructor)) ?_
          rintro _ _ ⟨_, ⟨wa, wc, rfl, rfl⟩, rfl⟩
          refine Go.Sl.L.pu rfl rfl trivial (pu_assign rfl) ?_
          refine Go.Sl.L.nil ?_
          obtain ⟨ws, hws⟩ : ∃ ws, ws = sortB (mkeys L) := ⟨_, rfl⟩
          have hwsl : ws.length ≤ 100000 := by rw [hws, sortB_length, List.length_map]; omega
          have hws2 : ws = sortB (mkeys (plL L, plW W).1) := by rw [hws]; show _ = sortB (mkeys (plL L)); rw [mkeys_plL]
          rw [← hws2] at hpt hpk
          have hple2 : preN q (plL L) ws ≤ placesP (plL L) := by unfold preN; rw [hws2]; exact hple
          have hpt2 : placesL (plain1 ps) = preN q (plL L) ws := hpt
          rw [← hws]
          refine Gs.slAddr (xs := ws) (SlH.own (E := 9) (enc := strC) (a := wa) (c := wc) (by repeat constructor)) fun wb wo hwa => ?_
          refine Gs.takes (As := [plO pa pc ps]) (by repeat constructor) (Gs.two ?_)
          refine Gs.slAddr (xs := ps) (SlH.own (E := 66) (enc := postC) (a := pa) (c := pc) (by repeat constructor)) fun pb po hpa => ?_
          refine Gs.then_n ?_
          refine Gs.seq ?_
          refine Gs.seq ?_
          refine Gs.reg ?_
          refine Go.Sl.L.pu rfl rfl trivial (pu_assign rfl) ?_
          refine Go.Sl.L.nil ?_
          refine Gs.then_n ?_
          refine Gs.block ?_
          refine Gs.loop1 (fun j : Nat => j ≤ ws.length) (fun j => [(0, .slice a xs.length c), (1, .string q), (5, ptr x), (7, .slice pa ps.length pc), (8, int (preN q (plL L) (ws.take j) : Nat)), (9, .slice wa ws.length wc), (10, int j)]) (fun j => [sl 66 3 postC pa pc ps, big (ps.map atO), ixA x L W, sl 9 1 strC wa wc ws, ro h0] ++ R) (fun j => ws.length - j) 0 (Nat.zero_le _) (by repeat constructor) (by repeat constructor) (fun j hj => ?_)
          refine Gs.seq ?_
          refine Gs.seq ?_
          refine Gs.reg ?_
          refine Go.Sl.L.pu rfl rfl trivial (pu_move rfl) ?_
          refine Go.Sl.L.pu rfl rfl trivial (pu_move rfl) ?_
          refine Go.Sl.L.pu rfl rfl trivial (pu_len Tryz.underlying58 rfl) ?_
          refine Go.Sl.L.pu rfl rfl trivial (pu_lt rfl rfl) ?_
          refine Go.Sl.L.nil ?_
          refine Gs.then_n ?_
          refine Gs.cond rfl (fun hc3 => ?_) (fun hc3 => ?_)
          · skip
            have hlt3 : j < ws.length := by have := of_decide_eq_true hc3; omega
            obtain ⟨w, hw⟩ : ∃ z, ws[j]? = some z := ⟨ws[j], by simp [hlt3]⟩
            obtain rfl := hwa (by rintro h; rw [h] at hlt3; simp at hlt3)
            have hsj : preN q (plL L) (ws.take (j + 1)) = preN q (plL L) (ws.take j) + if preB w q then placesL ((mget (plL L) w).getD []) else 0 := sum_take (f := fun v => if preB v q then placesL ((mget (plL L) v).getD []) else 0) hw
            have hsl : preN q (plL L) (ws.take (j + 1)) ≤ preN q (plL L) ws := sum_take_le (f := fun v => if preB v q then placesL ((mget (plL L) v).getD []) else 0) ws (j + 1)
            refine Gs.skip ?_
            refine Gs.then_n ?_
            refine Gs.seq ?_
            refine Gs.block ?_
            refine Gs.seq ?_
            refine Gs.seq ?_
            refine Gs.reg ?_
            refine Go.Sl.L.pu rfl rfl trivial (pu_move rfl) ?_
            refine Go.Sl.L.pu rfl rfl trivial (pu_move rfl) ?_
            refine Go.Sl.L.pu rfl rfl trivial (pu_ia se_58 rfl rfl (by omega) (by omega)) ?_
            refine Go.Sl.L.rd rfl rfl trivial (rd_ld na_9 rfl (Rdc.el0 (SlH.own (xs := ws) (E := 9) (enc := strC) (sz := 1) (by repeat constructor)) hw rfl rfl)) ?_
            refine Go.Sl.L.pu rfl rfl trivial (pu_lenS Tryz.underlying9 rfl) ?_
            refine Go.Sl.L.pu rfl rfl trivial (pu_move rfl) ?_
            refine Go.Sl.L.pu rfl rfl trivial (pu_lenS Tryz.underlying9 rfl) ?_
            refine Go.Sl.L.pu rfl rfl trivial (pu_lt rfl rfl) ?_
            refine Go.Sl.L.puB rfl rfl trivial (pu_move rfl) (fun hg8 => ?_) (fun hg8 => ?_)
            · skip
              have hnp : preB w q = false := preB_short (by have := of_decide_eq_true hg8; omega)
              refine Go.Sl.L.off rfl rfl rfl rfl rfl rfl ?_
              refine Go.Sl.L.off rfl rfl rfl rfl rfl rfl ?_
              refine Go.Sl.L.off rfl rfl rfl rfl rfl rfl ?_
              refine Go.Sl.L.off rfl rfl rfl rfl rfl rfl ?_
              refine Go.Sl.L.off rfl rfl rfl rfl rfl rfl ?_
              refine Go.Sl.L.off rfl rfl rfl rfl rfl rfl ?_
              refine Go.Sl.L.off rfl rfl rfl rfl rfl rfl ?_
              refine Go.Sl.L.off rfl rfl rfl rfl rfl rfl ?_
              refine Go.Sl.L.off rfl rfl rfl rfl rfl rfl ?_
              refine Go.Sl.L.pu rfl rfl trivial (by first | exact pu_pick_t rfl rfl | exact pu_pick_f rfl rfl) ?_
              refine Go.Sl.L.nil ?_
              refine Gs.then_n ?_
              refine Gs.cond_t rfl ?_
              refine Gs.exit ?_
              refine Gs.then_x ?_
              refine Gs.blk_hit ?_
              refine Gs.then_n ?_
              refine Gs.reg ?_
              refine Go.Sl.L.pu rfl rfl trivial (pu_move rfl) ?_
              refine Go.Sl.L.pu rfl rfl trivial (by first | exact pu_addI rfl rfl rfl (by omega) (by omega) | exact pu_add rfl rfl) ?_
              refine Go.Sl.L.pu rfl rfl trivial (pu_assign rfl) ?_
              refine Go.Sl.L.nil ?_
              refine Gs.then_n ?_
              first | (rw [show preN q (plL L) (ws.take j) = preN q (plL L) (ws.take (j + 1)) by rw [hsj, hnp]; rfl]; exact Gs.again1 (j + 1) hlt3 (by omega) (by repeat constructor) (by repeat constructor)) | exact Gs.again1 (j + 1) hlt3 (by omega) (by repeat constructor) (by repeat constructor)
            · skip
              have hge8 : q.size ≤ w.size := by have := of_decide_eq_false hg8; omega
              have hpbl := preB_long hge8
              refine Go.Sl.L.pu rfl rfl ⟨_, rfl, rfl⟩ (pu_move rfl) ?_
              refine Go.Sl.L.pu rfl rfl ⟨_, rfl, rfl⟩ (pu_move rfl) ?_
              refine Go.Sl.L.pu rfl rfl ⟨_, rfl, rfl⟩ (pu_ia se_58 rfl rfl (by omega) (by omega)) ?_
              refine Go.Sl.L.rd rfl rfl ⟨_, rfl, rfl⟩ (rd_ld na_9 rfl (Rdc.el0 (SlH.own (xs := ws) (E := 9) (enc := strC) (sz := 1) (by repeat constructor)) hw rfl rfl)) ?_
              refine Go.Sl.L.pu rfl rfl ⟨_, rfl, rfl⟩ (pu_move rfl) ?_
              refine Go.Sl.L.pu rfl rfl ⟨_, rfl, rfl⟩ (pu_lenS Tryz.underlying9 rfl) ?_
              refine Go.Sl.L.pu rfl rfl ⟨_, rfl, rfl⟩ (pu_sliceHS Tryz.underlying9 rfl rfl (by omega) (by omega)) ?_
              refine Go.Sl.L.pu rfl rfl ⟨_, rfl, rfl⟩ (pu_move rfl) ?_
              refine Go.Sl.L.pu rfl rfl ⟨_, rfl, rfl⟩ (pu_neS rfl rfl) ?_
              refine Go.Sl.L.pu rfl rfl trivial (by first | exact pu_pick_t rfl rfl | exact pu_pick_f rfl rfl) ?_
              refine Go.Sl.L.nil ?_
              refine Gs.then_n ?_
              refine Gs.cond rfl (fun hc4 => ?_) (fun hc4 => ?_)
              · skip
                have hnp : preB w q = false := by
                  rw [hpbl]; exact decide_eq_false (by have := of_decide_eq_true hc4; simpa using this)
                refine Gs.exit ?_
                refine Gs.then_x ?_
                refine Gs.blk_hit ?_
                refine Gs.then_n ?_
                refine Gs.reg ?_
                refine Go.Sl.L.pu rfl rfl trivial (pu_move rfl) ?_
                refine Go.Sl.L.pu rfl rfl trivial (by first | exact pu_addI rfl rfl rfl (by omega) (by omega) | exact pu_add rfl rfl) ?_
                refine Go.Sl.L.pu rfl rfl trivial (pu_assign rfl) ?_
                refine Go.Sl.L.nil ?_
                refine Gs.then_n ?_
                first | (rw [show preN q (plL L) (ws.take j) = preN q (plL L) (ws.take (j + 1)) by rw [hsj, hnp]; rfl]; exact Gs.again1 (j + 1) hlt3 (by omega) (by repeat constructor) (by repeat constructor)) | exact Gs.again1 (j + 1) hlt3 (by omega) (by repeat constructor) (by repeat constructor)
              · skip
                have hyp : preB w q = true := by
                  rw [hpbl]; exact decide_eq_true (by have := of_decide_eq_false hc4; simpa using this)
                rw [hyp, if_pos rfl] at hsj
                refine Gs.skip ?_
                refine Gs.then_n ?_
                refine Gs.seq ?_
                refine Gs.reg ?_
                refine Go.Sl.L.pu rfl rfl trivial (pu_move rfl) ?_
                refine Go.Sl.L.pu rfl rfl trivial (pu_move rfl) ?_
                refine Go.Sl.L.pu rfl rfl trivial (pu_move rfl) ?_
                refine Go.Sl.L.pu rfl rfl trivial (pu_ia se_58 rfl rfl (by omega) (by omega)) ?_
                refine Go.Sl.L.rd rfl rfl trivial (rd_ld na_9 rfl (Rdc.el0 (SlH.own (xs := ws) (E := 9) (enc := strC) (sz := 1) (by repeat constructor)) hw rfl rfl)) ?_
                refine Go.Sl.L.ac rfl rfl trivial (as_call (word_spec x L W w) (by repeat constructor) (by repeat constructor)) ?_
                rintro _ _ ⟨_, ⟨qa, qc, qs, rfl, hqw, rfl⟩, rfl⟩
                obtain ⟨hq1, hq2, hq3, hq4⟩ := hL.at (by rw [← hws]; exact hw) hqw
                have hqp : plain1 qs = (mget (plL L) w).getD [] := by rw [hqw, ← plL_get]
                obtain ⟨S0, hS0⟩ : ∃ n, n = preN q (plL L) (ws.take j) := ⟨_, rfl⟩
                rw [← hS0]
                rw [← hS0] at hsj
                refine Go.Sl.L.pu rfl rfl trivial (pu_assign rfl) ?_
                refine Go.Sl.L.nil ?_
                refine Gs.then_n ?_
                refine Gs.seq ?_
                refine Gs.takes (As := [plO qa qc qs]) (by repeat constructor) (Gs.two ?_)
                refine Gs.slAddr (xs := qs) (SlH.own (E := 66) (enc := postC) (a := qa) (c := qc) (by repeat constructor)) fun qb qo hqa => ?_
                refine Gs.reg ?_
                refine Go.Sl.L.pu rfl rfl trivial (pu_assign rfl) ?_
                refine Go.Sl.L.nil ?_
                refine Gs.then_n ?_
                refine Gs.block ?_
                refine Gs.loop1 (fun k : Nat => k ≤ qs.length) (fun k => [(0, .slice a xs.length c), (1, .string q), (5, ptr x), (7, .slice pa ps.length pc), (8, int ((S0 + placesL ((plain1 qs).take k) : Nat) : Int)), (9, .slice (some ⟨wb, wo, none⟩) ws.length wc), (10, int j), (11, .slice qa qs.length qc), (12, int k)]) (fun k => [sl 66 3 postC qa qc qs, sl 66 3 postC pa pc ps, big (ps.map atO), ixA x L W, sl 9 1 strC (some ⟨wb, wo, none⟩) wc ws, ro h0] ++ R) (fun k => qs.length - k) 0 (Nat.zero_le _) (by repeat constructor) (by repeat constructor) (fun k hk => ?_)
                refine Gs.seq ?_
                refine Gs.seq ?_
                refine Gs.reg ?_
                refine Go.Sl.L.pu rfl rfl trivial (pu_move rfl) ?_
                refine Go.Sl.L.pu rfl rfl trivial (pu_move rfl) ?_
                refine Go.Sl.L.pu rfl rfl trivial (pu_len Tryz.underlying42 rfl) ?_
                refine Go.Sl.L.pu rfl rfl trivial (pu_lt rfl rfl) ?_
                refine Go.Sl.L.nil ?_
                refine Gs.then_n ?_
                refine Gs.cond rfl (fun hc5 => ?_) (fun hc5 => ?_)
                · skip
                  have hlt5 : k < qs.length := by have := of_decide_eq_true hc5; omega
                  obtain ⟨y, hy⟩ : ∃ z, qs[k]? = some z := ⟨qs[k], by simp [hlt5]⟩
                  obtain rfl := hqa (by rintro h; rw [h] at hlt5; simp at hlt5)
                  have hsk := sum_take (f := fun p : PostP => p.2.length) (plain_at hy)
                  have hskl := sum_take_le (f := fun p : PostP => p.2.length) (plain1 qs) (k + 1)
                  have e1 : placesL ((plain1 qs).take (k + 1)) = placesL ((plain1 qs).take k) + y.t.xs.length := hsk
                  have e2 : placesL ((plain1 qs).take (k + 1)) ≤ placesL ((mget (plL L) w).getD []) := by rw [← hqp]; exact hskl
                  have hym : y.p ∈ (mget (plL L) w).getD [] := by rw [← hqp]; exact List.mem_of_getElem? (plain_at hy)
                  obtain ⟨r, hr, hyk, hyt⟩ := ((hL.getD w).2 y.p).1 hym
                  obtain ⟨pp, hppm, hppk, hppl⟩ := hpk r hr w (List.mem_of_getElem? hw) hyp _ hyt
                  have hyk2 : y.k = pp.1 := by rw [hppk]; exact hyk
                  refine Gs.skip ?_
                  refine Gs.then_n ?_
                  refine Gs.seq ?_
                  refine Gs.block ?_
                  refine Gs.seq ?_
                  refine Gs.reg ?_
                  refine Go.Sl.L.pu rfl rfl trivial (pu_move rfl) ?_
                  refine Go.Sl.L.pu rfl rfl trivial (pu_move rfl) ?_
                  refine Go.Sl.L.pu rfl rfl trivial (pu_move rfl) ?_
                  refine Go.Sl.L.pu rfl rfl trivial (pu_ia se_42 rfl rfl (by omega) (by omega)) ?_
                  refine Go.Sl.L.pu rfl rfl trivial (pu_fa fa_66_1 rfl) ?_
                  refine Go.Sl.L.rd rfl rfl trivial (rd_ld na_64 rfl (Rdc.elp 1 (SlH.own (xs := qs) (E := 66) (enc := postC) (sz := 3) (by repeat constructor)) hy rfl rfl)) ?_
                  refine Go.Sl.L.pu rfl rfl trivial (pu_len Tryz.underlying64 rfl) ?_
                  refine Go.Sl.L.pu rfl rfl trivial (pu_addI (z := ((S0 + placesL ((plain1 qs).take (k + 1)) : Nat) : Int)) rfl rfl (by omega) (by omega) (by omega)) ?_
                  refine Go.Sl.L.pu rfl rfl trivial (pu_assign rfl) ?_
                  refine Go.Sl.L.nil ?_
                  refine Gs.then_n ?_
                  refine Gs.seq ?_
                  refine Gs.reg ?_
                  refine Go.Sl.L.pu rfl rfl trivial (pu_assign rfl) ?_
                  refine Go.Sl.L.nil ?_
                  refine Gs.then_n ?_
                  refine Gs.seq ?_
                  refine Gs.seq ?_
                  refine Gs.reg ?_
                  refine Go.Sl.L.pu rfl rfl trivial (pu_assign rfl) ?_
                  refine Go.Sl.L.nil ?_
                  refine Gs.then_n ?_
                  refine Gs.block ?_
                  refine Gs.loop1 (fun s : Nat × Int => s.1 ≤ ps.length ∧ ((s.2 = -1 ∧ ∀ p ∈ ps.take s.1, p.k ≠ y.k) ∨ ∃ (n : Nat) (z : PostV), s.2 = (n : Int) ∧ ps[n]? = some z ∧ z.k = y.k)) (fun s => [(0, .slice a xs.length c), (1, .string q), (5, ptr x), (7, .slice pa ps.length pc), (8, int ((S0 + placesL ((plain1 qs).take (k + 1)) : Nat) : Int)), (9, .slice (some ⟨wb, wo, none⟩) ws.length wc), (10, int j), (11, .slice (some ⟨qb, qo, none⟩) qs.length qc), (12, int k), (13, int s.2), (14, int s.1)]) (fun s => [sl 66 3 postC (some ⟨qb, qo, none⟩) qc qs, sl 66 3 postC pa pc ps, big (ps.map atO), ixA x L W, sl 9 1 strC (some ⟨wb, wo, none⟩) wc ws, ro h0] ++ R) (fun s => ps.length - s.1) (0, -1) (⟨Nat.zero_le _, .inl ⟨rfl, by simp⟩⟩) (by repeat constructor) (by repeat constructor) (fun s hs3 => ?_)
                  obtain ⟨m, at'⟩ := s
                  obtain ⟨hm, hat⟩ := hs3
                  dsimp only at hm hat ⊢
                  refine Gs.seq ?_
                  refine Gs.seq ?_
                  refine Gs.reg ?_
                  refine Go.Sl.L.pu rfl rfl trivial (pu_move rfl) ?_
                  refine Go.Sl.L.pu rfl rfl trivial (pu_move rfl) ?_
                  refine Go.Sl.L.pu rfl rfl trivial (pu_len Tryz.underlying42 rfl) ?_
                  refine Go.Sl.L.pu rfl rfl trivial (pu_lt rfl rfl) ?_
                  refine Go.Sl.L.nil ?_
                  refine Gs.then_n ?_
                  refine Gs.cond rfl (fun hc6 => ?_) (fun hc6 => ?_)
                  · skip
                    have hlt6 : m < ps.length := by have := of_decide_eq_true hc6; omega
                    obtain ⟨z, hz⟩ : ∃ z, ps[m]? = some z := ⟨ps[m], by simp [hlt6]⟩
                    obtain rfl := hpa (by rintro h; rw [h] at hlt6; simp at hlt6)
                    refine Gs.skip ?_
                    refine Gs.then_n ?_
                    refine Gs.seq ?_
                    refine Gs.block ?_
                    refine Gs.seq ?_
                    refine Gs.regD mixed (by kernel_rfl) ?_
                    refine Rg.pu 0 rfl rfl (by kernel_rfl) trivial (pu_move rfl) ?_
                    refine Rg.pu 1 rfl rfl (by kernel_rfl) trivial (pu_move rfl) ?_
                    refine Rg.pu 2 rfl rfl (by kernel_rfl) trivial (pu_ia se_42 rfl rfl (by omega) (by omega)) ?_
                    refine Rg.pu 3 rfl rfl (by kernel_rfl) trivial (pu_fa fa_66_0 rfl) ?_
                    refine Rg.rd 4 rfl rfl (by kernel_rfl) trivial (rd_lda ag_31 rfl (Rdc.elp 2 (SlH.own (xs := ps) (E := 66) (enc := postC) (sz := 3) (by repeat constructor)) hz rfl rfl) rfl) ?_
                    refine Rg.pu 5 rfl rfl (by kernel_rfl) trivial (pu_move rfl) ?_
                    refine Rg.pu 6 rfl rfl (by kernel_rfl) trivial (pu_move rfl) ?_
                    refine Rg.pu 7 rfl rfl (by kernel_rfl) trivial (pu_ia se_42 rfl rfl (by omega) (by omega)) ?_
                    refine Rg.pu 8 rfl rfl (by kernel_rfl) trivial (pu_fa fa_66_0 rfl) ?_
                    refine Rg.rd 9 rfl rfl (by kernel_rfl) trivial (rd_lda ag_31 rfl (Rdc.elp 2 (SlH.own (xs := qs) (E := 66) (enc := postC) (sz := 3) (by repeat constructor)) hy rfl rfl) rfl) ?_
                    refine Rg.pu 10 rfl rfl (by kernel_rfl) trivial (pu_eqT (a := z.k) (b := y.k) cmp_31 (by decide) Tryz.eqGuardType31 rfl rfl) ?_
                    refine Rg.end (by kernel_rfl) ?_
                    refine Gs.then_n ?_
                    refine Gs.cond rfl (fun hc7 => ?_) (fun hc7 => ?_)
                    · skip
                      have hzk : z.k = y.k := of_decide_eq_true hc7
                      refine Gs.reg ?_
                      refine Go.Sl.L.pu rfl rfl trivial (pu_move rfl) ?_
                      refine Go.Sl.L.pu rfl rfl trivial (pu_assign rfl) ?_
                      refine Go.Sl.L.nil ?_
                      refine Gs.blk_n ?_
                      refine Gs.then_n ?_
                      refine Gs.reg ?_
                      refine Go.Sl.L.pu rfl rfl trivial (pu_move rfl) ?_
                      refine Go.Sl.L.pu rfl rfl trivial (by first | exact pu_addI rfl rfl rfl (by omega) (by omega) | exact pu_add rfl rfl) ?_
                      refine Go.Sl.L.pu rfl rfl trivial (pu_assign rfl) ?_
                      refine Go.Sl.L.nil ?_
                      refine Gs.then_n ?_
                      first | exact Gs.again1 (m + 1, (m : Int)) ⟨hlt6, .inr ⟨m, z, rfl, hz, hzk⟩⟩ (by show ps.length - (m + 1) < ps.length - m; omega) (by repeat constructor) (by repeat constructor) | exact Gs.again1 (m + 1, at') ⟨hlt6, hat2⟩ (by show ps.length - (m + 1) < ps.length - m; omega) (by repeat constructor) (by repeat constructor)
                    · skip
                      have hzk : z.k ≠ y.k := of_decide_eq_false hc7
                      have hat2 : (at' = -1 ∧ ∀ p ∈ ps.take (m + 1), p.k ≠ y.k) ∨ ∃ (n : Nat) (z : PostV), at' = (n : Int) ∧ ps[n]? = some z ∧ z.k = y.k := by
                        rcases hat with ⟨h1, h2⟩ | h
                        · refine .inl ⟨h1, fun p hp => ?_⟩
                          rw [List.take_add_one, hz] at hp
                          rcases List.mem_append.1 hp with hp | hp
                          · exact h2 p hp
                          · simp at hp; rw [hp]; exact hzk
                        · exact .inr h
                      refine Gs.skip ?_
                      refine Gs.blk_n ?_
                      refine Gs.then_n ?_
                      refine Gs.reg ?_
                      refine Go.Sl.L.pu rfl rfl trivial (pu_move rfl) ?_
                      refine Go.Sl.L.pu rfl rfl trivial (by first | exact pu_addI rfl rfl rfl (by omega) (by omega) | exact pu_add rfl rfl) ?_
                      refine Go.Sl.L.pu rfl rfl trivial (pu_assign rfl) ?_
                      refine Go.Sl.L.nil ?_
                      refine Gs.then_n ?_
                      first | exact Gs.again1 (m + 1, (m : Int)) ⟨hlt6, .inr ⟨m, z, rfl, hz, hzk⟩⟩ (by show ps.length - (m + 1) < ps.length - m; omega) (by repeat constructor) (by repeat constructor) | exact Gs.again1 (m + 1, at') ⟨hlt6, hat2⟩ (by show ps.length - (m + 1) < ps.length - m; omega) (by repeat constructor) (by repeat constructor)
                  · skip
                    have hge6 : m = ps.length := by have := of_decide_eq_false hc6; omega
                    rw [hge6, List.take_length] at hat
                    obtain ⟨n, z, rfl, hz, hzk⟩ : ∃ (n : Nat) (z : PostV), at' = (n : Int) ∧ ps[n]? = some z ∧ z.k = y.k := by
                      rcases hat with ⟨-, h2⟩ | h
                      · obtain ⟨z, hzm, hzp⟩ := List.mem_map.1 hppm
                        exact (h2 z hzm (by rw [hyk2, ← hzp]; rfl)).elim
                      · exact h
                    obtain rfl := hpa (by rintro h; rw [h] at hz; simp at hz)
                    have hnl := (List.getElem?_eq_some_iff.1 hz).1
                    have hzl : y.t.xs.length ≤ z.t.xs.length := by
                      have g1 := mget_of_mem hpn (show (y.k, pp.2) ∈ plain1 ps by rw [hyk2]; exact hppm)
                      have g2 := mget_of_mem hpn (show (y.k, z.t.xs) ∈ plain1 ps by rw [← hzk]; exact List.mem_of_getElem? (plain_at hz))
                      rw [g1] at g2
                      rw [← Option.some.inj g2]; exact hppl
                    refine Gs.exit ?_
                    refine Gs.then_x ?_
                    refine Gs.then_x ?_
                    refine Gs.blk_hit ?_
                    refine Gs.then_n ?_
                    refine Gs.seq ?_
                    refine Gs.regD mixed (by kernel_rfl) ?_
                    refine Rg.pu 0 rfl rfl (by kernel_rfl) trivial (pu_move rfl) ?_
                    refine Rg.pu 1 rfl rfl (by kernel_rfl) trivial (pu_lt rfl rfl) ?_
                    refine Rg.puBf 2 rfl rfl (by kernel_rfl) trivial (pu_move rfl) (decide_eq_false (by omega)) ?_
                    refine Rg.pu 3 rfl rfl (by kernel_rfl) ⟨_, rfl, rfl⟩ (pu_move rfl) ?_
                    refine Rg.pu 4 rfl rfl (by kernel_rfl) ⟨_, rfl, rfl⟩ (pu_move rfl) ?_
                    refine Rg.pu 5 rfl rfl (by kernel_rfl) ⟨_, rfl, rfl⟩ (pu_ia se_42 rfl rfl (by omega) (by omega)) ?_
                    refine Rg.pu 6 rfl rfl (by kernel_rfl) ⟨_, rfl, rfl⟩ (pu_fa fa_66_1 rfl) ?_
                    refine Rg.rd 7 rfl rfl (by kernel_rfl) ⟨_, rfl, rfl⟩ (rd_ld na_64 rfl (Rdc.elp 1 (SlH.own (xs := ps) (E := 66) (enc := postC) (sz := 3) (by repeat constructor)) hz rfl rfl)) ?_
                    refine Rg.pu 8 rfl rfl (by kernel_rfl) ⟨_, rfl, rfl⟩ (pu_len Tryz.underlying64 rfl) ?_
                    refine Rg.pu 9 rfl rfl (by kernel_rfl) ⟨_, rfl, rfl⟩ (pu_move rfl) ?_
                    refine Rg.pu 10 rfl rfl (by kernel_rfl) ⟨_, rfl, rfl⟩ (pu_move rfl) ?_
                    refine Rg.pu 11 rfl rfl (by kernel_rfl) ⟨_, rfl, rfl⟩ (pu_ia se_42 rfl rfl (by omega) (by omega)) ?_
                    refine Rg.pu 12 rfl rfl (by kernel_rfl) ⟨_, rfl, rfl⟩ (pu_fa fa_66_1 rfl) ?_
                    refine Rg.rd 13 rfl rfl (by kernel_rfl) ⟨_, rfl, rfl⟩ (rd_ld na_64 rfl (Rdc.elp 1 (SlH.own (xs := qs) (E := 66) (enc := postC) (sz := 3) (by repeat constructor)) hy rfl rfl)) ?_
                    refine Rg.pu 14 rfl rfl (by kernel_rfl) ⟨_, rfl, rfl⟩ (pu_len Tryz.underlying64 rfl) ?_
                    refine Rg.pu 15 rfl rfl (by kernel_rfl) ⟨_, rfl, rfl⟩ (pu_lt rfl rfl) ?_
                    refine Rg.pu 16 rfl rfl (by kernel_rfl) trivial (by first | exact pu_pick_t rfl rfl | exact pu_pick_f rfl rfl) ?_
                    refine Rg.end (by kernel_rfl) ?_
                    refine Gs.then_n ?_
                    refine Gs.cond_ff rfl (decide_eq_false (by omega)) ?_
                    refine Gs.skip ?_
                    refine Gs.blk_n ?_
                    refine Gs.then_n ?_
                    refine Gs.reg ?_
                    refine Go.Sl.L.pu rfl rfl trivial (pu_move rfl) ?_
                    refine Go.Sl.L.pu rfl rfl trivial (by first | exact pu_addI rfl rfl rfl (by omega) (by omega) | exact pu_add rfl rfl) ?_
                    refine Go.Sl.L.pu rfl rfl trivial (pu_assign rfl) ?_
                    refine Go.Sl.L.nil ?_
                    refine Gs.then_n ?_
                    exact Gs.again1 (k + 1) hlt5 (by omega) (by repeat constructor) (by repeat constructor)
                · skip
                  have hge5 : k = qs.length := by have := of_decide_eq_false hc5; omega
                  have hfin : S0 + placesL ((plain1 qs).take k) = preN q (plL L) (ws.take (j + 1)) := by
                    rw [hsj, List.take_of_length_le (by rw [List.length_map]; omega), hqp]
                  rw [hfin]
                  refine Gs.exit ?_
                  refine Gs.then_x ?_
                  refine Gs.then_x ?_
                  refine Gs.blk_hit ?_
                  refine Gs.blk_n ?_
                  refine Gs.then_n ?_
                  refine Gs.reg ?_
                  refine Go.Sl.L.pu rfl rfl trivial (pu_move rfl) ?_
                  refine Go.Sl.L.pu rfl rfl trivial (by first | exact pu_addI rfl rfl rfl (by omega) (by omega) | exact pu_add rfl rfl) ?_
                  refine Go.Sl.L.pu rfl rfl trivial (pu_assign rfl) ?_
                  refine Go.Sl.L.nil ?_
                  refine Gs.then_n ?_
                  first | (rw [show preN q (plL L) (ws.take j) = preN q (plL L) (ws.take (j + 1)) by rw [hsj, hnp]; rfl]; exact Gs.again1 (j + 1) hlt3 (by omega) (by repeat constructor) (by repeat constructor)) | exact Gs.again1 (j + 1) hlt3 (by omega) (by repeat constructor) (by repeat constructor)
          · skip
            have hge3 : j = ws.length := by have := of_decide_eq_false hc3; omega
            rw [hge3, List.take_length]
            refine Gs.exit ?_
            refine Gs.then_x ?_
            refine Gs.then_x ?_
            refine Gs.blk_hit ?_
            refine Gs.then_n ?_
            refine Gs.seq ?_
            refine Gs.reg ?_
            refine Go.Sl.L.pu rfl rfl trivial (pu_assign rfl) ?_
            refine Go.Sl.L.nil ?_
            refine Gs.then_n ?_
            refine Gs.seq ?_
            refine Gs.seq ?_
            refine Gs.reg ?_
            refine Go.Sl.L.pu rfl rfl trivial (pu_assign rfl) ?_
            refine Go.Sl.L.nil ?_
            refine Gs.then_n ?_
            refine Gs.block ?_
            refine Gs.loop1 (fun m : Nat => m ≤ ps.length) (fun m => [(7, .slice pa ps.length pc), (8, int (preN q (plL L) ws : Nat)), (15, int (placesL ((plain1 ps).take m) : Nat)), (16, int m)]) (fun m => [sl 66 3 postC pa pc ps, big (ps.map atO), ro h0] ++ R) (fun m => ps.length - m) 0 (Nat.zero_le _) (by repeat constructor) (by repeat constructor) (fun m hm => ?_)
            refine Gs.seq ?_
            refine Gs.seq ?_
            refine Gs.reg ?_
            refine Go.Sl.L.pu rfl rfl trivial (pu_move rfl) ?_
            refine Go.Sl.L.pu rfl rfl trivial (pu_move rfl) ?_
            refine Go.Sl.L.pu rfl rfl trivial (pu_len Tryz.underlying42 rfl) ?_
            refine Go.Sl.L.pu rfl rfl trivial (pu_lt rfl rfl) ?_
            refine Go.Sl.L.nil ?_
            refine Gs.then_n ?_
            refine Gs.cond rfl (fun hc9 => ?_) (fun hc9 => ?_)
            · skip
              have hlt9 : m < ps.length := by have := of_decide_eq_true hc9; omega
              obtain ⟨z, hz⟩ : ∃ z, ps[m]? = some z := ⟨ps[m], by simp [hlt9]⟩
              obtain rfl := hpa (by rintro h; rw [h] at hlt9; simp at hlt9)
              have hsk := sum_take (f := fun p : PostP => p.2.length) (plain_at hz)
              have hskl := sum_take_le (f := fun p : PostP => p.2.length) (plain1 ps) (m + 1)
              have e1 : placesL ((plain1 ps).take (m + 1)) = placesL ((plain1 ps).take m) + z.t.xs.length := hsk
              have e2 : placesL ((plain1 ps).take (m + 1)) ≤ placesL (plain1 ps) := hskl
              refine Gs.skip ?_
              refine Gs.then_n ?_
              refine Gs.seq ?_
              refine Gs.block ?_
              refine Gs.reg ?_
              refine Go.Sl.L.pu rfl rfl trivial (pu_move rfl) ?_
              refine Go.Sl.L.pu rfl rfl trivial (pu_move rfl) ?_
              refine Go.Sl.L.pu rfl rfl trivial (pu_move rfl) ?_
              refine Go.Sl.L.pu rfl rfl trivial (pu_ia se_42 rfl rfl (by omega) (by omega)) ?_
              refine Go.Sl.L.pu rfl rfl trivial (pu_fa fa_66_1 rfl) ?_
              refine Go.Sl.L.rd rfl rfl trivial (rd_ld na_64 rfl (Rdc.elp 1 (SlH.own (xs := ps) (E := 66) (enc := postC) (sz := 3) (by repeat constructor)) hz rfl rfl)) ?_
              refine Go.Sl.L.pu rfl rfl trivial (pu_len Tryz.underlying64 rfl) ?_
              refine Go.Sl.L.pu rfl rfl trivial (pu_addI (z := ((placesL ((plain1 ps).take (m + 1)) : Nat) : Int)) rfl rfl (by omega) (by omega) (by omega)) ?_
              refine Go.Sl.L.pu rfl rfl trivial (pu_assign rfl) ?_
              refine Go.Sl.L.nil ?_
              refine Gs.blk_n ?_
              refine Gs.then_n ?_
              refine Gs.reg ?_
              refine Go.Sl.L.pu rfl rfl trivial (pu_move rfl) ?_
              refine Go.Sl.L.pu rfl rfl trivial (by first | exact pu_addI rfl rfl rfl (by omega) (by omega) | exact pu_add rfl rfl) ?_
              refine Go.Sl.L.pu rfl rfl trivial (pu_assign rfl) ?_
              refine Go.Sl.L.nil ?_
              refine Gs.then_n ?_
              exact Gs.again1 (m + 1) hlt9 (by omega) (by repeat constructor) (by repeat constructor)
            · skip
              have hge9 : m = ps.length := by have := of_decide_eq_false hc9; omega
              rw [hge9, List.take_of_length_le (by rw [List.length_map]; omega), hpt2]
              refine Gs.exit ?_
              refine Gs.then_x ?_
              refine Gs.then_x ?_
              refine Gs.blk_hit ?_
              refine Gs.then_n ?_
              refine Gs.seq ?_
              refine Gs.takes (As := [sl 66 3 postC pa pc ps, big (ps.map atO)]) (by repeat constructor) (Gs.toTwo ?_)
              refine Gs.reg ?_
              refine Go.Sl.L.pu rfl rfl trivial (pu_move rfl) ?_
              refine Go.Sl.L.pu rfl rfl trivial (pu_move rfl) ?_
              refine Go.Sl.L.pu rfl rfl trivial (pu_eq rfl rfl) ?_
              refine Go.Sl.L.puBt rfl rfl trivial (pu_move rfl) (decide_eq_true rfl) ?_
              refine Go.Sl.L.pu rfl rfl ⟨_, rfl, rfl⟩ (pu_move rfl) ?_
              refine Go.Sl.L.ac rfl rfl ⟨_, rfl, rfl⟩ (as_call (may10_spec (prd_plO (a := pa) (c := pc) (plain_len1 (rfl : plain1 ps = plain1 ps) hpb)) (by omega)) (by repeat constructor) (by repeat constructor)) ?_
              rintro _ _ ⟨_, ⟨rfl, rfl⟩, rfl⟩
              rw [hpm]
              refine Go.Sl.L.pu rfl rfl trivial (by first | exact pu_pick_t rfl rfl | exact pu_pick_f rfl rfl) ?_
              refine Go.Sl.L.puBt rfl rfl trivial (pu_move rfl) rfl ?_
              refine Go.Sl.L.ac rfl rfl ⟨_, rfl, rfl⟩ (as_call (awake_spec T) (by repeat constructor) (by repeat constructor)) ?_
              rintro _ _ ⟨_, ⟨rfl, rfl⟩, rfl⟩
              refine Go.Sl.L.pu rfl rfl trivial (by first | exact pu_pick_t rfl rfl | exact pu_pick_f rfl rfl) ?_
              refine Go.Sl.L.pu rfl rfl trivial (pu_assign rfl) ?_
              refine Go.Sl.L.nil ?_
              refine Gs.then_n ?_
              refine Gs.ret ?_
              exact Gs.fin1 Tryz.results6 rfl _ (⟨rfl, rfl⟩) (by repeat constructor)
end Go.Proofs.YtmbikfojljnnkaaGreatDoor
