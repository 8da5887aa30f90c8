/- Walk: IndexScript (grapevinelaw11). -/
import Derived.Test.YtmbikfojljnnkaaGreatDoorIx9
import Derived.Test.YtmbikfojljnnkaaGreatDoorIx2
namespace Go.Proofs.YtmbikfojljnnkaaGreatDoor
open Go Go.Sl Go.Gv Go.Kv Go.Po Go.Ix Go.Bst
set_option maxRecDepth 100000
theorem IxIs.getD_len {rs : List Rec} {s : PL × PW} (h : IxIs rs s) (w : ByteArray) : ((mget s.1 w).getD []).length ≤ rs.length := by
  cases hm : mget s.1 w with
  | none => exact Nat.zero_le _
  | some l => exact h.lists hm
theorem IxIs.pre_short {rs : List Rec} {s : PL × PW} (h : IxIs rs s) (w : ByteArray) {l : List PostP} (hp : List.Perm l (mm sortI (prefM w s.1))) (hn : (mkeys l).Nodup) : l.length ≤ rs.length := by
  have := nodup_sub (m := rs.map Rec.key) hn fun k hk => by
    obtain ⟨p, hpl, rfl⟩ := List.mem_map.1 hk
    obtain ⟨r, hr, h1, -⟩ := (h.pre_mem w hp p).1 hpl
    exact List.mem_map.2 ⟨r, hr, h1.symm⟩
  simpa using this
theorem into_take {rs : List Rec} (hn : (rs.map Rec.key).Nodup) {i : Nat} {r : Rec} (hr : rs[i]? = some r) : intoL (sortK ((rs.take i).map Rec.key)) r.key = sortK ((rs.take (i + 1)).map Rec.key) := by
  have hsub : ((rs.take (i + 1)).map Rec.key).Nodup := List.Nodup.sublist ((List.take_sublist _ _).map _) hn
  rw [List.take_add_one, hr, List.map_append] at hsub ⊢
  have hni : r.key ∉ (rs.take i).map Rec.key := fun hc => (List.nodup_append.1 hsub).2.2 r.key hc r.key (by simp) rfl
  rw [intoL_ins (fun hc => hni (sortK_mem.1 hc))]
  exact (sortK_snoc _ _).symm
theorem script11_spec {h0 : Hp} (T : TabX h0) {a : Option Addr} {c : Nat} {xs : List ActI} (hx : slR h0 6 actI a xs) (hxl : xs.length ≤ 9223372036854775807) (q : ByteArray) :
    Ct Tryz.prog 3 [.slice a xs.length c, .string q] [ro h0] (fun v hs => v = .bool true ∧ hs = [ro h0]) := by
  refine Ct.intro Tryz.func3 rfl (by kernel_rfl) 143 Tryz.ntmps3 (Nat.le_of_ble_eq_true rfl) fun w0 R => ?_
  refine Gs.slAddr ((Srd.ro hx).h (by repeat constructor)) fun ab ao ha => ?_
  refine Gs.seq ?_
  refine Gs.reg ?_
  refine Go.Sl.L.pu rfl rfl trivial (pu_assign rfl) ?_
  refine Go.Sl.L.nil ?_
  refine Gs.then_n ?_
  refine Gs.seq ?_
  refine Gs.seq ?_
  refine Gs.reg ?_
  refine Go.Sl.L.pu rfl rfl trivial (pu_move rfl) ?_
  refine Go.Sl.L.ac rfl rfl trivial (as_call (great_spec (Srd.ro hx) hxl 40) (by repeat constructor) (by repeat constructor)) ?_
  rintro _ _ ⟨_, ⟨⟨g, rfl, hg⟩, rfl⟩, rfl⟩
  refine Go.Sl.L.puB rfl rfl trivial (pu_move rfl) (fun hg2 => ?_) (fun hg2 => ?_)
  · skip
    refine Go.Sl.L.off rfl rfl rfl rfl rfl rfl ?_
    refine Go.Sl.L.off rfl rfl rfl rfl rfl rfl ?_
    refine Go.Sl.L.off rfl rfl rfl rfl rfl rfl ?_
    refine Go.Sl.L.pu rfl rfl trivial (by first | exact pu_pick_t rfl rfl | exact pu_pick_f rfl rfl) ?_
    refine Go.Sl.L.nil ?_
    refine Gs.then_n ?_
    refine Gs.cond_t rfl ?_
    refine Gs.seq ?_
    refine Gs.reg ?_
    refine Go.Sl.L.ac rfl rfl trivial (as_call (awake_spec T) (by repeat constructor) (by repeat constructor)) ?_
    rintro _ _ ⟨_, ⟨rfl, rfl⟩, rfl⟩
    refine Go.Sl.L.pu rfl rfl trivial (pu_assign rfl) ?_
    refine Go.Sl.L.nil ?_
    refine Gs.then_n ?_
    refine Gs.ret ?_
    refine Gs.then_r ?_
    exact Gs.fin1 Tryz.results3 rfl _ (⟨rfl, rfl⟩) (by repeat constructor)
  · skip
    refine Go.Sl.L.pu rfl rfl ⟨_, rfl, rfl⟩ (pu_move rfl) ?_
    refine Go.Sl.L.pu rfl rfl ⟨_, rfl, rfl⟩ (pu_lenS Tryz.underlying9 rfl) ?_
    refine Go.Sl.L.pu rfl rfl ⟨_, rfl, rfl⟩ (pu_gt rfl rfl) ?_
    refine Go.Sl.L.pu rfl rfl trivial (by first | exact pu_pick_t rfl rfl | exact pu_pick_f rfl rfl) ?_
    refine Go.Sl.L.nil ?_
    refine Gs.then_n ?_
    refine Gs.cond rfl (fun hc0 => ?_) (fun hc0 => ?_)
    · skip
      refine Gs.seq ?_
      refine Gs.reg ?_
      refine Go.Sl.L.ac rfl rfl trivial (as_call (awake_spec T) (by repeat constructor) (by repeat constructor)) ?_
      rintro _ _ ⟨_, ⟨rfl, rfl⟩, rfl⟩
      refine Go.Sl.L.pu rfl rfl trivial (pu_assign rfl) ?_
      refine Go.Sl.L.nil ?_
      refine Gs.then_n ?_
      refine Gs.ret ?_
      refine Gs.then_r ?_
      exact Gs.fin1 Tryz.results3 rfl _ (⟨rfl, rfl⟩) (by repeat constructor)
    · skip
      have hxs : xs.length ≤ 40 := by have := hg hg2; omega
      refine Gs.skip ?_
      refine Gs.then_n ?_
      refine Gs.seq ?_
      refine Gs.reg ?_
      refine Go.Sl.L.ac rfl rfl trivial (as_call (new_spec) (by repeat constructor) (by repeat constructor)) ?_
      rintro _ _ ⟨_, ⟨x, rfl, rfl⟩, rfl⟩
      refine Go.Sl.L.pu rfl rfl trivial (pu_assign rfl) ?_
      refine Go.Sl.L.nil ?_
      refine Gs.then_n ?_
      refine Gs.seq ?_
      refine Gs.seq ?_
      refine Gs.reg ?_
      refine Go.Sl.L.pu rfl rfl trivial (pu_move rfl) ?_
      refine Go.Sl.L.pu rfl rfl trivial (pu_eqN Tryz.underlying25 rfl rfl) ?_
      refine Go.Sl.L.nil ?_
      refine Gs.then_n ?_
      refine Gs.cond_ff rfl rfl ?_
      refine Gs.skip ?_
      refine Gs.then_n ?_
      refine Gs.seq ?_
      refine Gs.reg ?_
      refine Go.Sl.L.pu rfl rfl trivial (pu_assign rfl) ?_
      refine Go.Sl.L.nil ?_
      refine Gs.slNil 35 5 recC ?_
      refine Gs.then_n ?_
      refine Gs.seq ?_
      refine Gs.seq ?_
      refine Gs.reg ?_
      refine Go.Sl.L.pu rfl rfl trivial (pu_assign rfl) ?_
      refine Go.Sl.L.nil ?_
      refine Gs.then_n ?_
      refine Gs.block ?_
      refine Gs.loop1 (fun s : Nat × (Option Addr × Nat) × List Rec × List (ByteArray × SlV PostV) × List (Key × SlV ByteArray) => s.1 ≤ xs.length ∧ IxIs s.2.2.1 (plL s.2.2.2.1, plW s.2.2.2.2) ∧ s.2.2.1.length ≤ s.1) (fun s => [(0, .slice a xs.length c), (1, .string q), (5, ptr x), (6, .slice s.2.1.1 s.2.2.1.length s.2.1.2), (7, int s.1)]) (fun s => [ixA x s.2.2.2.1 s.2.2.2.2, sl 35 5 recC s.2.1.1 s.2.1.2 s.2.2.1, ro h0] ++ R) (fun s => xs.length - s.1) (0, (none, 0), [], [], []) (⟨Nat.zero_le _, IxIs.nil, Nat.zero_le _⟩) (by repeat constructor) (by repeat constructor) (fun s hs => ?_)
      obtain ⟨i, ⟨ra, rc⟩, rs, L, W⟩ := s
      obtain ⟨hi, hL, hrl⟩ := hs
      dsimp only at hi hL hrl ⊢
      have hsh := hL.short
      have hll := hL.llen
      have hwl := hL.rlen
      refine Gs.seq ?_
      refine Gs.seq ?_
      refine Gs.reg ?_
      refine Go.Sl.L.pu rfl rfl trivial (pu_move rfl) ?_
      refine Go.Sl.L.pu rfl rfl trivial (pu_move rfl) ?_
      refine Go.Sl.L.pu rfl rfl trivial (pu_len Tryz.underlying22 rfl) ?_
      refine Go.Sl.L.pu rfl rfl trivial (pu_lt rfl rfl) ?_
      refine Go.Sl.L.nil ?_
      refine Gs.then_n ?_
      refine Gs.cond rfl (fun hc2 => ?_) (fun hc2 => ?_)
      · skip
        have hlt : i < xs.length := by have := of_decide_eq_true hc2; omega
        obtain ⟨z, hz⟩ : ∃ z, xs[i]? = some z := ⟨xs[i], by simp [hlt]⟩
        obtain rfl := ha (by rintro rfl; simp at hlt)
        have hfl := followR_len rs z
        refine Gs.skip ?_
        refine Gs.then_n ?_
        refine Gs.seq ?_
        refine Gs.block ?_
        refine Gs.seq ?_
        refine Gs.reg ?_
        refine Go.Sl.L.pu rfl rfl trivial (pu_assign rfl) ?_
        refine Go.Sl.L.nil ?_
        refine Gs.then_n ?_
        refine Gs.seq ?_
        refine Gs.reg ?_
        refine Go.Sl.L.pu rfl rfl trivial (pu_move rfl) ?_
        refine Go.Sl.L.pu rfl rfl trivial (pu_move rfl) ?_
        refine Go.Sl.L.pu rfl rfl trivial (pu_move rfl) ?_
        refine Go.Sl.L.pu rfl rfl trivial (pu_ia se_22 rfl rfl (by omega) (by omega)) ?_
        refine Go.Sl.L.rd rfl rfl trivial (rd_lda ag_37 rfl (Rdc.el0 ((Srd.ro hx).h (by repeat constructor)) hz rfl rfl) rfl) ?_
        refine Go.Sl.L.ac rfl rfl trivial (as_call (followI_spec T.1 (a := ra) (c := rc) hL.keys (by omega) z) (by repeat constructor) (by repeat constructor)) ?_
        rintro _ _ ⟨_, ⟨ra2, rc2, rfl, rfl⟩, rfl⟩
        refine Go.Sl.L.pu rfl rfl trivial (pu_move rfl) ?_
        refine Go.Sl.L.pu rfl rfl trivial (pu_extract rfl rfl) ?_
        refine Go.Sl.L.pu rfl rfl trivial (pu_extract rfl rfl) ?_
        refine Go.Sl.L.pu rfl rfl trivial (pu_assign rfl) ?_
        refine Go.Sl.L.pu rfl rfl trivial (pu_assign rfl) ?_
        refine Go.Sl.L.nil ?_
        refine Gs.then_n ?_
        refine Gs.seq ?_
        refine Gs.seq ?_
        refine Gs.reg ?_
        refine Go.Sl.L.pu rfl rfl trivial (pu_move rfl) ?_
        refine Go.Sl.L.pu rfl rfl trivial (pu_move rfl) ?_
        refine Go.Sl.L.pu rfl rfl trivial (pu_ia se_22 rfl rfl (by omega) (by omega)) ?_
        refine Go.Sl.L.pu rfl rfl trivial (pu_fa fa_37_0 rfl) ?_
        refine Go.Sl.L.rd rfl rfl trivial (rd_ld na_4 rfl (Rdc.elp (f := 0) 1 ((Srd.ro hx).h (by repeat constructor)) hz rfl rfl)) ?_
        refine Go.Sl.L.nil ?_
        refine Gs.then_n ?_
        refine Gs.cond rfl (fun hc3 => ?_) (fun hc3 => ?_)
        · skip
          refine Gs.seq ?_
          refine Gs.reg ?_
          refine Go.Sl.L.pu rfl rfl trivial (pu_move rfl) ?_
          refine Go.Sl.L.pu rfl rfl trivial (pu_move rfl) ?_
          refine Go.Sl.L.pu rfl rfl trivial (pu_move rfl) ?_
          refine Go.Sl.L.pu rfl rfl trivial (pu_ia se_22 rfl rfl (by omega) (by omega)) ?_
          refine Go.Sl.L.pu rfl rfl trivial (pu_fa fa_37_1 rfl) ?_
          refine Go.Sl.L.pu rfl rfl trivial (pu_fa fa_35_0 rfl) ?_
          refine Go.Sl.L.rd rfl rfl trivial (rd_lda ag_31 rfl (Rdc.elp (f := 1) 2 ((Srd.ro hx).h (by repeat constructor)) hz rfl rfl) rfl) ?_
          refine Go.Sl.L.ac rfl rfl trivial (ac_lit encC_31 ([z.r.key]) et_47 ek_31 rfl (by repeat constructor) rfl rfl (by decide)) ?_
          rintro _ _ ⟨a53, rfl, rfl⟩
          refine Go.Sl.L.ac rfl rfl trivial (as_call (drop_spec x L W (ks := [z.r.key]) Srd.own (Nat.le_of_ble_eq_true rfl)) (by repeat constructor) (by repeat constructor)) ?_
          rintro _ _ ⟨_, ⟨n, L2, W2, rfl, hd, rfl⟩, rfl⟩
          have hL2n : IxIs (followR rs z) (plL L2, plW W2) ∧ (n : Int) = followN rs z := by
            obtain ⟨s3, hd3, h3⟩ := hL.dropK z.r.key 0
            have e := hd.trans hd3
            have e1 : plL L2 = s3.1 := congrArg (fun z => z.1) e
            have e2 : plW W2 = s3.2 := congrArg (fun z => z.2.1) e
            have e3 : n = if z.r.key ∈ rs.map Rec.key then 0 + 1 else 0 := congrArg (fun z => z.2.2) e
            unfold followR followN
            rw [show z.d = true from hc3, if_pos rfl, if_pos rfl, e1, e2]
            refine ⟨h3, ?_⟩
            rw [e3]; split <;> rfl
          obtain ⟨hL2, hn⟩ := hL2n
          refine Go.Sl.L.pu rfl rfl trivial (pu_move rfl) ?_
          refine Go.Sl.L.pu rfl rfl trivial (pu_ne rfl rfl) ?_
          refine Go.Sl.L.nil ?_
          refine Gs.then_n ?_
          refine Gs.cond_ff rfl (decide_eq_false fun h => h hn) ?_
          refine Gs.skip ?_
          refine Gs.then_n ?_
          refine Gs.seq ?_
          have hll2 := hL2.llen
          have hwl2 := hL2.rlen
          refine Gs.reg ?_
          refine Go.Sl.L.pu rfl rfl trivial (pu_move rfl) ?_
          refine Go.Sl.L.pu rfl rfl trivial (pu_move rfl) ?_
          refine Go.Sl.L.ac rfl rfl trivial (as_call (word_spec x L2 W2 q) (by repeat constructor) (by repeat constructor)) ?_
          rintro _ _ ⟨_, ⟨wa, wc, qs, rfl, hq, rfl⟩, rfl⟩
          refine Go.Sl.L.pu rfl rfl trivial (pu_move rfl) ?_
          refine Go.Sl.L.pu rfl rfl trivial (pu_move rfl) ?_
          refine Go.Sl.L.ac rfl rfl trivial (as_call (prefix_spec x L2 W2 q (by omega)) (by repeat constructor) (by repeat constructor)) ?_
          rintro _ _ ⟨_, ⟨pa, pc, ps, rfl, hpp, hpo, rfl⟩, rfl⟩
          refine Go.Sl.L.pu rfl rfl trivial (pu_assign rfl) ?_
          refine Go.Sl.L.pu rfl rfl trivial (pu_assign rfl) ?_
          refine Go.Sl.L.nil ?_
          have hqp : plain1 qs = (mget (plL L2) q).getD [] := by rw [hq, ← plL_get]
          have hqe : plain1 qs = listP false q (followR rs z) := hqp.trans (hL2.word_is q)
          have hqb := plain_len1 hqp (hL2.pos q)
          have hql : qs.length ≤ (followR rs z).length := by
            have := hL2.getD_len q
            have e := congrArg List.length hqp
            simp only [List.length_map] at e
            have this' : ((mget (plL L2) q).getD []).length ≤ (followR rs z).length := this
            omega
          have hpo2 : (plain1 ps).Pairwise fun p q => before q.1 p.1 = false := List.pairwise_map.2 hpo
          have hpe : plain1 ps = listP true q (followR rs z) := hL2.pre_is q hpp hpo2
          obtain ⟨-, hpn, hpb, -⟩ := hL2.pre q (l := plain1 ps) hpp hpo2
          have hpb2 := plain_len1 (rfl : plain1 ps = plain1 ps) hpb
          have hpsl : ps.length ≤ (followR rs z).length := by have := hL2.pre_short q (l := plain1 ps) hpp hpn; simpa using this
          refine Gs.then_n ?_
          refine Gs.seq ?_
          refine Gs.seq ?_
          refine Gs.reg ?_
          refine Go.Sl.L.pu rfl rfl trivial (pu_move rfl) ?_
          refine Go.Sl.L.pu rfl rfl trivial (pu_move rfl) ?_
          refine Go.Sl.L.pu rfl rfl trivial (pu_move rfl) ?_
          refine Go.Sl.L.ac rfl rfl trivial (as_call (list_spec T (ra := ra2) (rc := rc2) (rs := followR rs z) (by omega) q false) (by repeat constructor) (by repeat constructor)) ?_
          rintro _ _ ⟨_, ⟨la, lc, ls, Q, rfl, hls, hlq, hlsl, rfl⟩, rfl⟩
          refine Go.Sl.L.ac rfl rfl trivial (as_call (Ct.two (samePosts_spec (S := two (plO wa wc qs) (two (sl 66 3 postC la lc ls) Q)) (xs := qs) (ys := ls) (prd_plO hqb).l (PRd.r ⟨Srd.two1 Srd.own, fun p hp => ⟨Srd.two2 (hlq p hp).1, (hlq p hp).2⟩⟩) (by omega)) (by rintro _ _ ⟨_, rfl⟩; exact ⟨_, rfl⟩)) (by repeat constructor) (by repeat constructor)) ?_
          rintro _ _ ⟨_, ⟨_, ⟨rfl, ⟨⟩⟩, rfl⟩, rfl⟩
          rw [decide_eq_true (show plain1 qs = plain1 ls by rw [hqe, hls])]
          refine Go.Sl.L.pu rfl rfl trivial (pu_not rfl) ?_
          refine Go.Sl.L.puBf rfl rfl trivial (pu_move rfl) rfl ?_
          refine Go.Sl.L.pu rfl rfl ⟨_, rfl, rfl⟩ (pu_move rfl) ?_
          refine Go.Sl.L.pu rfl rfl ⟨_, rfl, rfl⟩ (pu_neS rfl rfl) ?_
          refine Go.Sl.L.puB rfl rfl ⟨_, rfl, rfl⟩ (pu_move rfl) (fun hg9 => ?_) (fun hg9 => ?_)
          · skip
            refine Go.Sl.L.pu rfl rfl ⟨_, rfl, rfl⟩ (pu_move rfl) ?_
            refine Go.Sl.L.pu rfl rfl ⟨_, rfl, rfl⟩ (pu_move rfl) ?_
            refine Go.Sl.L.pu rfl rfl ⟨_, rfl, rfl⟩ (pu_move rfl) ?_
            refine Go.Sl.L.ac rfl rfl ⟨_, rfl, rfl⟩ (as_call (list_spec T (ra := ra2) (rc := rc2) (rs := followR rs z) (by omega) q true) (by repeat constructor) (by repeat constructor)) ?_
            rintro _ _ ⟨_, ⟨ma, mc, ms, Q2, rfl, hms, hmq, hmsl, rfl⟩, rfl⟩
            refine Go.Sl.L.ac rfl rfl ⟨_, rfl, rfl⟩ (as_call (Ct.two (samePosts_spec (S := two (plO pa pc ps) (two (sl 66 3 postC ma mc ms) Q2)) (xs := ps) (ys := ms) (prd_plO hpb2).l (PRd.r ⟨Srd.two1 Srd.own, fun p hp => ⟨Srd.two2 (hmq p hp).1, (hmq p hp).2⟩⟩) (by omega)) (by rintro _ _ ⟨_, rfl⟩; exact ⟨_, rfl⟩)) (by repeat constructor) (by repeat constructor)) ?_
            rintro _ _ ⟨_, ⟨_, ⟨rfl, ⟨⟩⟩, rfl⟩, rfl⟩
            rw [decide_eq_true (show plain1 ps = plain1 ms by rw [hpe, hms])]
            refine Go.Sl.L.pu rfl rfl ⟨_, rfl, rfl⟩ (pu_not rfl) ?_
            refine Go.Sl.L.pu rfl rfl ⟨_, rfl, rfl⟩ (by first | exact pu_pick_t rfl rfl | exact pu_pick_f rfl rfl) ?_
            refine Go.Sl.L.pu rfl rfl trivial (by first | exact pu_pick_t rfl rfl | exact pu_pick_f rfl rfl) ?_
            refine Go.Sl.L.nil ?_
            refine Gs.then_n ?_
            refine Gs.cond_ff rfl rfl ?_
            refine Gs.skip ?_
            refine Gs.then_n ?_
            refine Gs.seq ?_
            refine Gs.reg ?_
            refine Go.Sl.L.pu rfl rfl trivial (pu_move rfl) ?_
            refine Go.Sl.L.ac rfl rfl trivial (as_call (overPosts_spec (a := wa) (c := wc) (ps := qs) (by omega) (fun p hp => Nat.le_trans (hqb p hp) (by decide))) (by repeat constructor) (by repeat constructor)) ?_
            rintro _ _ ⟨_, ⟨rfl, rfl⟩, rfl⟩
            refine Go.Sl.L.nil ?_
            refine Gs.then_n ?_
            refine Gs.reg ?_
            refine Go.Sl.L.pu rfl rfl trivial (pu_move rfl) ?_
            refine Go.Sl.L.ac rfl rfl trivial (as_call (overPosts_spec (a := pa) (c := pc) (ps := ps) (by omega) (fun p hp => Nat.le_trans (hpb2 p hp) (by decide))) (by repeat constructor) (by repeat constructor)) ?_
            rintro _ _ ⟨_, ⟨rfl, rfl⟩, rfl⟩
            refine Go.Sl.L.nil ?_
            refine Gs.blk_n ?_
            refine Gs.then_n ?_
            refine Gs.reg ?_
            refine Go.Sl.L.pu rfl rfl trivial (pu_move rfl) ?_
            refine Go.Sl.L.pu rfl rfl trivial (by first | exact pu_addI rfl rfl rfl (by omega) (by omega) | exact pu_add rfl rfl) ?_
            refine Go.Sl.L.pu rfl rfl trivial (pu_assign rfl) ?_
            refine Go.Sl.L.nil ?_
            refine Gs.then_n ?_
            exact Gs.again1 (i + 1, (ra2, rc2), followR rs z, L2, W2) ⟨hlt, hL2, by show (followR rs z).length ≤ i + 1; omega⟩ (by show xs.length - (i + 1) < xs.length - i; omega) (by repeat constructor) (by repeat constructor)
          · skip
            refine Go.Sl.L.off rfl rfl rfl rfl rfl rfl ?_
            refine Go.Sl.L.off rfl rfl rfl rfl rfl rfl ?_
            refine Go.Sl.L.off rfl rfl rfl rfl rfl rfl ?_
            refine Go.Sl.L.off rfl rfl rfl rfl rfl rfl ?_
            refine Go.Sl.L.off rfl rfl rfl rfl rfl rfl ?_
            refine Go.Sl.L.off rfl rfl rfl rfl rfl rfl ?_
            refine Go.Sl.L.pu rfl rfl ⟨_, rfl, rfl⟩ (by first | exact pu_pick_t rfl rfl | exact pu_pick_f rfl rfl) ?_
            refine Go.Sl.L.pu rfl rfl trivial (by first | exact pu_pick_t rfl rfl | exact pu_pick_f rfl rfl) ?_
            refine Go.Sl.L.nil ?_
            refine Gs.then_n ?_
            refine Gs.cond_f rfl ?_
            refine Gs.skip ?_
            refine Gs.then_n ?_
            refine Gs.seq ?_
            refine Gs.reg ?_
            refine Go.Sl.L.pu rfl rfl trivial (pu_move rfl) ?_
            refine Go.Sl.L.ac rfl rfl trivial (as_call (overPosts_spec (a := wa) (c := wc) (ps := qs) (by omega) (fun p hp => Nat.le_trans (hqb p hp) (by decide))) (by repeat constructor) (by repeat constructor)) ?_
            rintro _ _ ⟨_, ⟨rfl, rfl⟩, rfl⟩
            refine Go.Sl.L.nil ?_
            refine Gs.then_n ?_
            refine Gs.reg ?_
            refine Go.Sl.L.pu rfl rfl trivial (pu_move rfl) ?_
            refine Go.Sl.L.ac rfl rfl trivial (as_call (overPosts_spec (a := pa) (c := pc) (ps := ps) (by omega) (fun p hp => Nat.le_trans (hpb2 p hp) (by decide))) (by repeat constructor) (by repeat constructor)) ?_
            rintro _ _ ⟨_, ⟨rfl, rfl⟩, rfl⟩
            refine Go.Sl.L.nil ?_
            refine Gs.blk_n ?_
            refine Gs.then_n ?_
            refine Gs.reg ?_
            refine Go.Sl.L.pu rfl rfl trivial (pu_move rfl) ?_
            refine Go.Sl.L.pu rfl rfl trivial (by first | exact pu_addI rfl rfl rfl (by omega) (by omega) | exact pu_add rfl rfl) ?_
            refine Go.Sl.L.pu rfl rfl trivial (pu_assign rfl) ?_
            refine Go.Sl.L.nil ?_
            refine Gs.then_n ?_
            exact Gs.again1 (i + 1, (ra2, rc2), followR rs z, L2, W2) ⟨hlt, hL2, by show (followR rs z).length ≤ i + 1; omega⟩ (by show xs.length - (i + 1) < xs.length - i; omega) (by repeat constructor) (by repeat constructor)
        · skip
          refine Gs.seq ?_
          refine Gs.reg ?_
          refine Go.Sl.L.pu rfl rfl trivial (pu_move rfl) ?_
          refine Go.Sl.L.pu rfl rfl trivial (pu_move rfl) ?_
          refine Go.Sl.L.pu rfl rfl trivial (pu_move rfl) ?_
          refine Go.Sl.L.pu rfl rfl trivial (pu_ia se_22 rfl rfl (by omega) (by omega)) ?_
          refine Go.Sl.L.pu rfl rfl trivial (pu_fa fa_37_1 rfl) ?_
          refine Go.Sl.L.rd rfl rfl trivial (rd_lda ag_35 rfl (Rdc.elp (f := 1) 5 ((Srd.ro hx).h (by repeat constructor)) hz rfl rfl) rfl) ?_
          refine Go.Sl.L.ac rfl rfl trivial (as_call (put_spec T x L W z.r (fun p hp => by have := hsh p hp; omega)) (by repeat constructor) (by repeat constructor)) ?_
          rintro _ _ ⟨_, ⟨L2, W2, rfl, hp, rfl⟩, rfl⟩
          refine Go.Sl.L.ac rfl rfl trivial (as_call (num_spec (putN (plW W) z.r)) (by repeat constructor) (by repeat constructor)) ?_
          rintro _ _ ⟨_, ⟨rfl, rfl⟩, rfl⟩
          have hL2 : IxIs (followR rs z) (plL L2, plW W2) := by
            unfold followR
            rw [show z.d = false from hc3, if_neg (by decide)]; exact hL.putI hp
          have hn : putN (plW W) z.r = followN rs z := by
            rw [show plW W = (plL L, plW W).2 from rfl, hL.putN]; unfold followN
            rw [show z.d = false from hc3]; rfl
          refine Go.Sl.L.pu rfl rfl trivial (pu_move rfl) ?_
          refine Go.Sl.L.pu rfl rfl trivial (pu_ne rfl rfl) ?_
          refine Go.Sl.L.nil ?_
          refine Gs.then_n ?_
          refine Gs.cond_ff rfl (decide_eq_false fun h => h hn) ?_
          refine Gs.skip ?_
          refine Gs.then_n ?_
          refine Gs.seq ?_
          have hll2 := hL2.llen
          have hwl2 := hL2.rlen
          refine Gs.reg ?_
          refine Go.Sl.L.pu rfl rfl trivial (pu_move rfl) ?_
          refine Go.Sl.L.pu rfl rfl trivial (pu_move rfl) ?_
          refine Go.Sl.L.ac rfl rfl trivial (as_call (word_spec x L2 W2 q) (by repeat constructor) (by repeat constructor)) ?_
          rintro _ _ ⟨_, ⟨wa, wc, qs, rfl, hq, rfl⟩, rfl⟩
          refine Go.Sl.L.pu rfl rfl trivial (pu_move rfl) ?_
          refine Go.Sl.L.pu rfl rfl trivial (pu_move rfl) ?_
          refine Go.Sl.L.ac rfl rfl trivial (as_call (prefix_spec x L2 W2 q (by omega)) (by repeat constructor) (by repeat constructor)) ?_
          rintro _ _ ⟨_, ⟨pa, pc, ps, rfl, hpp, hpo, rfl⟩, rfl⟩
          refine Go.Sl.L.pu rfl rfl trivial (pu_assign rfl) ?_
          refine Go.Sl.L.pu rfl rfl trivial (pu_assign rfl) ?_
          refine Go.Sl.L.nil ?_
          have hqp : plain1 qs = (mget (plL L2) q).getD [] := by rw [hq, ← plL_get]
          have hqe : plain1 qs = listP false q (followR rs z) := hqp.trans (hL2.word_is q)
          have hqb := plain_len1 hqp (hL2.pos q)
          have hql : qs.length ≤ (followR rs z).length := by
            have := hL2.getD_len q
            have e := congrArg List.length hqp
            simp only [List.length_map] at e
            have this' : ((mget (plL L2) q).getD []).length ≤ (followR rs z).length := this
            omega
          have hpo2 : (plain1 ps).Pairwise fun p q => before q.1 p.1 = false := List.pairwise_map.2 hpo
          have hpe : plain1 ps = listP true q (followR rs z) := hL2.pre_is q hpp hpo2
          obtain ⟨-, hpn, hpb, -⟩ := hL2.pre q (l := plain1 ps) hpp hpo2
          have hpb2 := plain_len1 (rfl : plain1 ps = plain1 ps) hpb
          have hpsl : ps.length ≤ (followR rs z).length := by have := hL2.pre_short q (l := plain1 ps) hpp hpn; simpa using this
          refine Gs.then_n ?_
          refine Gs.seq ?_
          refine Gs.seq ?_
          refine Gs.reg ?_
          refine Go.Sl.L.pu rfl rfl trivial (pu_move rfl) ?_
          refine Go.Sl.L.pu rfl rfl trivial (pu_move rfl) ?_
          refine Go.Sl.L.pu rfl rfl trivial (pu_move rfl) ?_
          refine Go.Sl.L.ac rfl rfl trivial (as_call (list_spec T (ra := ra2) (rc := rc2) (rs := followR rs z) (by omega) q false) (by repeat constructor) (by repeat constructor)) ?_
          rintro _ _ ⟨_, ⟨la, lc, ls, Q, rfl, hls, hlq, hlsl, rfl⟩, rfl⟩
          refine Go.Sl.L.ac rfl rfl trivial (as_call (Ct.two (samePosts_spec (S := two (plO wa wc qs) (two (sl 66 3 postC la lc ls) Q)) (xs := qs) (ys := ls) (prd_plO hqb).l (PRd.r ⟨Srd.two1 Srd.own, fun p hp => ⟨Srd.two2 (hlq p hp).1, (hlq p hp).2⟩⟩) (by omega)) (by rintro _ _ ⟨_, rfl⟩; exact ⟨_, rfl⟩)) (by repeat constructor) (by repeat constructor)) ?_
          rintro _ _ ⟨_, ⟨_, ⟨rfl, ⟨⟩⟩, rfl⟩, rfl⟩
          rw [decide_eq_true (show plain1 qs = plain1 ls by rw [hqe, hls])]
          refine Go.Sl.L.pu rfl rfl trivial (pu_not rfl) ?_
          refine Go.Sl.L.puBf rfl rfl trivial (pu_move rfl) rfl ?_
          refine Go.Sl.L.pu rfl rfl ⟨_, rfl, rfl⟩ (pu_move rfl) ?_
          refine Go.Sl.L.pu rfl rfl ⟨_, rfl, rfl⟩ (pu_neS rfl rfl) ?_
          refine Go.Sl.L.puB rfl rfl ⟨_, rfl, rfl⟩ (pu_move rfl) (fun hg9 => ?_) (fun hg9 => ?_)
          · skip
            refine Go.Sl.L.pu rfl rfl ⟨_, rfl, rfl⟩ (pu_move rfl) ?_
            refine Go.Sl.L.pu rfl rfl ⟨_, rfl, rfl⟩ (pu_move rfl) ?_
            refine Go.Sl.L.pu rfl rfl ⟨_, rfl, rfl⟩ (pu_move rfl) ?_
            refine Go.Sl.L.ac rfl rfl ⟨_, rfl, rfl⟩ (as_call (list_spec T (ra := ra2) (rc := rc2) (rs := followR rs z) (by omega) q true) (by repeat constructor) (by repeat constructor)) ?_
            rintro _ _ ⟨_, ⟨ma, mc, ms, Q2, rfl, hms, hmq, hmsl, rfl⟩, rfl⟩
            refine Go.Sl.L.ac rfl rfl ⟨_, rfl, rfl⟩ (as_call (Ct.two (samePosts_spec (S := two (plO pa pc ps) (two (sl 66 3 postC ma mc ms) Q2)) (xs := ps) (ys := ms) (prd_plO hpb2).l (PRd.r ⟨Srd.two1 Srd.own, fun p hp => ⟨Srd.two2 (hmq p hp).1, (hmq p hp).2⟩⟩) (by omega)) (by rintro _ _ ⟨_, rfl⟩; exact ⟨_, rfl⟩)) (by repeat constructor) (by repeat constructor)) ?_
            rintro _ _ ⟨_, ⟨_, ⟨rfl, ⟨⟩⟩, rfl⟩, rfl⟩
            rw [decide_eq_true (show plain1 ps = plain1 ms by rw [hpe, hms])]
            refine Go.Sl.L.pu rfl rfl ⟨_, rfl, rfl⟩ (pu_not rfl) ?_
            refine Go.Sl.L.pu rfl rfl ⟨_, rfl, rfl⟩ (by first | exact pu_pick_t rfl rfl | exact pu_pick_f rfl rfl) ?_
            refine Go.Sl.L.pu rfl rfl trivial (by first | exact pu_pick_t rfl rfl | exact pu_pick_f rfl rfl) ?_
            refine Go.Sl.L.nil ?_
            refine Gs.then_n ?_
            refine Gs.cond_ff rfl rfl ?_
            refine Gs.skip ?_
            refine Gs.then_n ?_
            refine Gs.seq ?_
            refine Gs.reg ?_
            refine Go.Sl.L.pu rfl rfl trivial (pu_move rfl) ?_
            refine Go.Sl.L.ac rfl rfl trivial (as_call (overPosts_spec (a := wa) (c := wc) (ps := qs) (by omega) (fun p hp => Nat.le_trans (hqb p hp) (by decide))) (by repeat constructor) (by repeat constructor)) ?_
            rintro _ _ ⟨_, ⟨rfl, rfl⟩, rfl⟩
            refine Go.Sl.L.nil ?_
            refine Gs.then_n ?_
            refine Gs.reg ?_
            refine Go.Sl.L.pu rfl rfl trivial (pu_move rfl) ?_
            refine Go.Sl.L.ac rfl rfl trivial (as_call (overPosts_spec (a := pa) (c := pc) (ps := ps) (by omega) (fun p hp => Nat.le_trans (hpb2 p hp) (by decide))) (by repeat constructor) (by repeat constructor)) ?_
            rintro _ _ ⟨_, ⟨rfl, rfl⟩, rfl⟩
            refine Go.Sl.L.nil ?_
            refine Gs.blk_n ?_
            refine Gs.then_n ?_
            refine Gs.reg ?_
            refine Go.Sl.L.pu rfl rfl trivial (pu_move rfl) ?_
            refine Go.Sl.L.pu rfl rfl trivial (by first | exact pu_addI rfl rfl rfl (by omega) (by omega) | exact pu_add rfl rfl) ?_
            refine Go.Sl.L.pu rfl rfl trivial (pu_assign rfl) ?_
            refine Go.Sl.L.nil ?_
            refine Gs.then_n ?_
            exact Gs.again1 (i + 1, (ra2, rc2), followR rs z, L2, W2) ⟨hlt, hL2, by show (followR rs z).length ≤ i + 1; omega⟩ (by show xs.length - (i + 1) < xs.length - i; omega) (by repeat constructor) (by repeat constructor)
          · skip
            refine Go.Sl.L.off rfl rfl rfl rfl rfl rfl ?_
            refine Go.Sl.L.off rfl rfl rfl rfl rfl rfl ?_
            refine Go.Sl.L.off rfl rfl rfl rfl rfl rfl ?_
            refine Go.Sl.L.off rfl rfl rfl rfl rfl rfl ?_
            refine Go.Sl.L.off rfl rfl rfl rfl rfl rfl ?_
            refine Go.Sl.L.off rfl rfl rfl rfl rfl rfl ?_
            refine Go.Sl.L.pu rfl rfl ⟨_, rfl, rfl⟩ (by first | exact pu_pick_t rfl rfl | exact pu_pick_f rfl rfl) ?_
            refine Go.Sl.L.pu rfl rfl trivial (by first | exact pu_pick_t rfl rfl | exact pu_pick_f rfl rfl) ?_
            refine Go.Sl.L.nil ?_
            refine Gs.then_n ?_
            refine Gs.cond_f rfl ?_
            refine Gs.skip ?_
            refine Gs.then_n ?_
            refine Gs.seq ?_
            refine Gs.reg ?_
            refine Go.Sl.L.pu rfl rfl trivial (pu_move rfl) ?_
            refine Go.Sl.L.ac rfl rfl trivial (as_call (overPosts_spec (a := wa) (c := wc) (ps := qs) (by omega) (fun p hp => Nat.le_trans (hqb p hp) (by decide))) (by repeat constructor) (by repeat constructor)) ?_
            rintro _ _ ⟨_, ⟨rfl, rfl⟩, rfl⟩
            refine Go.Sl.L.nil ?_
            refine Gs.then_n ?_
            refine Gs.reg ?_
            refine Go.Sl.L.pu rfl rfl trivial (pu_move rfl) ?_
            refine Go.Sl.L.ac rfl rfl trivial (as_call (overPosts_spec (a := pa) (c := pc) (ps := ps) (by omega) (fun p hp => Nat.le_trans (hpb2 p hp) (by decide))) (by repeat constructor) (by repeat constructor)) ?_
            rintro _ _ ⟨_, ⟨rfl, rfl⟩, rfl⟩
            refine Go.Sl.L.nil ?_
            refine Gs.blk_n ?_
            refine Gs.then_n ?_
            refine Gs.reg ?_
            refine Go.Sl.L.pu rfl rfl trivial (pu_move rfl) ?_
            refine Go.Sl.L.pu rfl rfl trivial (by first | exact pu_addI rfl rfl rfl (by omega) (by omega) | exact pu_add rfl rfl) ?_
            refine Go.Sl.L.pu rfl rfl trivial (pu_assign rfl) ?_
            refine Go.Sl.L.nil ?_
            refine Gs.then_n ?_
            exact Gs.again1 (i + 1, (ra2, rc2), followR rs z, L2, W2) ⟨hlt, hL2, by show (followR rs z).length ≤ i + 1; omega⟩ (by show xs.length - (i + 1) < xs.length - i; omega) (by repeat constructor) (by repeat constructor)
      · skip
        have hge : i = xs.length := by have := of_decide_eq_false hc2; omega
        refine Gs.exit ?_
        refine Gs.then_x ?_
        refine Gs.then_x ?_
        refine Gs.blk_hit ?_
        refine Gs.then_n ?_
        refine Gs.seq ?_
        refine Gs.reg ?_
        refine Go.Sl.L.pu rfl rfl trivial (pu_assign rfl) ?_
        refine Go.Sl.L.nil ?_
        refine Gs.slNil 31 2 keyC ?_
        refine Gs.slAddr (xs := rs) (SlH.own (E := 35) (enc := recC) (a := ra) (c := rc) (by repeat constructor)) fun rb ro' hra => ?_
        refine Gs.then_n ?_
        refine Gs.seq ?_
        refine Gs.seq ?_
        refine Gs.reg ?_
        refine Go.Sl.L.pu rfl rfl trivial (pu_assign rfl) ?_
        refine Go.Sl.L.nil ?_
        refine Gs.then_n ?_
        refine Gs.block ?_
        refine Gs.loop1 (fun s : Nat × (Option Addr × Nat) => s.1 ≤ rs.length) (fun s => [(5, ptr x), (6, .slice ra rs.length rc), (11, .slice s.2.1 (sortK ((rs.take s.1).map Rec.key)).length s.2.2), (12, int s.1)]) (fun s => [ixA x L W, sl 35 5 recC ra rc rs, sl 31 2 keyC s.2.1 s.2.2 (sortK ((rs.take s.1).map Rec.key)), ro h0] ++ R) (fun s => rs.length - s.1) (0, (none, 0)) (Nat.zero_le _) (by repeat constructor) (by repeat constructor) (fun s hs1 => ?_)
        obtain ⟨j, ⟨ka, kc⟩⟩ := s
        dsimp only at hs1 ⊢
        refine Gs.seq ?_
        refine Gs.seq ?_
        refine Gs.reg ?_
        refine Go.Sl.L.pu rfl rfl trivial (pu_move rfl) ?_
        refine Go.Sl.L.pu rfl rfl trivial (pu_move rfl) ?_
        refine Go.Sl.L.pu rfl rfl trivial (pu_len Tryz.underlying27 rfl) ?_
        refine Go.Sl.L.pu rfl rfl trivial (pu_lt rfl rfl) ?_
        refine Go.Sl.L.nil ?_
        refine Gs.then_n ?_
        refine Gs.cond rfl (fun hc7 => ?_) (fun hc7 => ?_)
        · skip
          have hlt7 : j < rs.length := by have := of_decide_eq_true hc7; omega
          obtain ⟨r, hr⟩ : ∃ z, rs[j]? = some z := ⟨rs[j], by simp [hlt7]⟩
          obtain rfl := hra (by rintro h; rw [h] at hlt7; simp at hlt7)
          have hinto := into_take hL.keys hr
          have htl := toks_le121 r
          refine Gs.skip ?_
          refine Gs.then_n ?_
          refine Gs.seq ?_
          refine Gs.block ?_
          refine Gs.seq ?_
          refine Gs.reg ?_
          refine Go.Sl.L.pu rfl rfl trivial (pu_move rfl) ?_
          refine Go.Sl.L.pu rfl rfl trivial (pu_move rfl) ?_
          refine Go.Sl.L.pu rfl rfl trivial (pu_move rfl) ?_
          refine Go.Sl.L.pu rfl rfl trivial (pu_ia se_27 rfl rfl (by omega) (by omega)) ?_
          refine Go.Sl.L.pu rfl rfl trivial (pu_fa fa_35_0 rfl) ?_
          refine Go.Sl.L.rd rfl rfl trivial (rd_lda ag_31 rfl (Rdc.elp (f := 0) 2 (SlH.own (xs := rs) (E := 35) (enc := recC) (sz := 5) (by repeat constructor)) hr rfl rfl) rfl) ?_
          refine Go.Sl.L.ac rfl rfl trivial (as_call (into_spec ka kc (sortK ((rs.take j).map Rec.key)) (by rw [sortK_length, List.length_map, List.length_take]; omega) r.key) (by repeat constructor) (by repeat constructor)) ?_
          rintro _ _ ⟨_, ⟨ka2, kc2, rfl, rfl⟩, rfl⟩
          refine Go.Sl.L.pu rfl rfl trivial (pu_assign rfl) ?_
          refine Go.Sl.L.nil ?_
          rw [hinto]
          refine Gs.then_n ?_
          refine Gs.seq ?_
          refine Gs.reg ?_
          refine Go.Sl.L.pu rfl rfl trivial (pu_move rfl) ?_
          refine Go.Sl.L.pu rfl rfl trivial (pu_move rfl) ?_
          refine Go.Sl.L.pu rfl rfl trivial (pu_ia se_27 rfl rfl (by omega) (by omega)) ?_
          refine Go.Sl.L.pu rfl rfl trivial (pu_fa fa_35_2 rfl) ?_
          refine Go.Sl.L.rd rfl rfl trivial (rd_ld na_9 rfl (Rdc.elp (f := 4) 1 (SlH.own (xs := rs) (E := 35) (enc := recC) (sz := 5) (by repeat constructor)) hr rfl rfl)) ?_
          refine Go.Sl.L.ac rfl rfl trivial (as_call (of1_spec T r.t) (by repeat constructor) (by repeat constructor)) ?_
          rintro _ _ ⟨_, ⟨ta, tc, rfl, rfl⟩, rfl⟩
          refine Go.Sl.L.pu rfl rfl trivial (pu_assign rfl) ?_
          refine Go.Sl.L.nil ?_
          refine Gs.slAddr (xs := toksV r.t) (SlH.own (E := 52) (enc := wordC) (a := ta) (c := tc) (by repeat constructor)) fun tb tof hta => ?_
          refine Gs.then_n ?_
          refine Gs.seq ?_
          refine Gs.reg ?_
          refine Go.Sl.L.pu rfl rfl trivial (pu_assign rfl) ?_
          refine Go.Sl.L.nil ?_
          refine Gs.then_n ?_
          refine Gs.block ?_
          refine Gs.loop1 (fun k : Nat => k ≤ (toksV r.t).length) (fun k => [(5, ptr x), (6, .slice (some ⟨rb, ro', none⟩) rs.length rc), (11, .slice ka2 (sortK ((rs.take (j + 1)).map Rec.key)).length kc2), (12, int j), (13, .slice ta (toksV r.t).length tc), (14, int k)]) (fun k => [ixA x L W, sl 35 5 recC (some ⟨rb, ro', none⟩) rc rs, sl 31 2 keyC ka2 kc2 (sortK ((rs.take (j + 1)).map Rec.key)), sl 52 2 wordC ta tc (toksV r.t), ro h0] ++ R) (fun k => (toksV r.t).length - k) 0 (Nat.zero_le _) (by repeat constructor) (by repeat constructor) (fun k hk => ?_)
          refine Gs.seq ?_
          refine Gs.seq ?_
          refine Gs.reg ?_
          refine Go.Sl.L.pu rfl rfl trivial (pu_move rfl) ?_
          refine Go.Sl.L.pu rfl rfl trivial (pu_move rfl) ?_
          refine Go.Sl.L.pu rfl rfl trivial (pu_len Tryz.underlying49 rfl) ?_
          refine Go.Sl.L.pu rfl rfl trivial (pu_lt rfl rfl) ?_
          refine Go.Sl.L.nil ?_
          refine Gs.then_n ?_
          refine Gs.cond rfl (fun hc8 => ?_) (fun hc8 => ?_)
          · skip
            have hlt8 : k < (toksV r.t).length := by have := of_decide_eq_true hc8; omega
            obtain ⟨p, hp⟩ : ∃ z, (toksV r.t)[k]? = some z := ⟨(toksV r.t)[k], by simp [hlt8]⟩
            obtain rfl := hta (by rintro h; rw [h] at hlt8; simp at hlt8)
            refine Gs.skip ?_
            refine Gs.then_n ?_
            refine Gs.seq ?_
            refine Gs.block ?_
            refine Gs.seq ?_
            refine Gs.regD mixed (by kernel_rfl) ?_
            refine Rg.pu 0 rfl rfl (by kernel_rfl) trivial (pu_move rfl) ?_
            refine Rg.pu 1 rfl rfl (by kernel_rfl) trivial (pu_move rfl) ?_
            refine Rg.pu 2 rfl rfl (by kernel_rfl) trivial (pu_move rfl) ?_
            refine Rg.pu 3 rfl rfl (by kernel_rfl) trivial (pu_ia se_49 rfl rfl (by omega) (by omega)) ?_
            refine Rg.pu 4 rfl rfl (by kernel_rfl) trivial (pu_fa fa_52_0 rfl) ?_
            refine Rg.rd 5 rfl rfl (by kernel_rfl) trivial (rd_ld na_9 rfl (Rdc.elp (f := 0) 1 (SlH.own (xs := toksV r.t) (E := 52) (enc := wordC) (sz := 2) (by repeat constructor)) hp rfl rfl)) ?_
            refine Rg.pu 7 rfl rfl (by kernel_rfl) trivial (pu_move rfl) ?_
            refine Rg.pu 8 rfl rfl (by kernel_rfl) trivial (pu_move rfl) ?_
            refine Rg.pu 9 rfl rfl (by kernel_rfl) trivial (pu_move rfl) ?_
            refine Rg.pu 10 rfl rfl (by kernel_rfl) trivial (pu_ia se_49 rfl rfl (by omega) (by omega)) ?_
            refine Rg.pu 11 rfl rfl (by kernel_rfl) trivial (pu_fa fa_52_0 rfl) ?_
            refine Rg.rd 12 rfl rfl (by kernel_rfl) trivial (rd_ld na_9 rfl (Rdc.elp (f := 0) 1 (SlH.own (xs := toksV r.t) (E := 52) (enc := wordC) (sz := 2) (by repeat constructor)) hp rfl rfl)) ?_
            refine Rg.one (by kernel_rfl) (Stp.acR 6 [12] rfl rfl (by kernel_rfl) trivial (as_call (word_spec x L W p.1) (by repeat constructor) (by repeat constructor)) (by rintro _ _ ⟨_, ⟨wa, wc, qs, rfl, hq, rfl⟩, rfl⟩; exact (Reads.cons rfl rfl rfl trivial rfl (rd_ld na_9 rfl (Rdc.elp (f := 0) 1 (SlH.own (xs := toksV r.t) (E := 52) (enc := wordC) (sz := 2) (by repeat constructor)) hp rfl rfl)) Reads.nil)) ?_)
            rintro _ _ ⟨_, ⟨wa, wc, qs, rfl, hq, rfl⟩, rfl⟩
            have hqp : plain1 qs = (mget (plL L) p.1).getD [] := by rw [hq, ← plL_get]
            have hqe : plain1 qs = listP false p.1 rs := hqp.trans (hL.word_is p.1)
            have hqb := plain_len1 hqp (hL.pos p.1)
            have hql : qs.length ≤ rs.length := by
              have := hL.getD_len p.1
              have e := congrArg List.length hqp
              simp only [List.length_map] at e
              have this' : ((mget (plL L) p.1).getD []).length ≤ rs.length := this
              omega
            refine Rg.one (by kernel_rfl) (Stp.ac 13 rfl rfl (by kernel_rfl) trivial (as_call (list_spec T (ra := some ⟨rb, ro', none⟩) (rc := rc) (rs := rs) (by omega) p.1 false) (by repeat constructor) (by repeat constructor))  ?_)
            rintro _ _ ⟨_, ⟨la, lc, ls, Q, rfl, hls, hlq, hlsl, rfl⟩, rfl⟩
            refine Rg.one (by kernel_rfl) (Stp.ac 14 rfl rfl (by kernel_rfl) trivial (as_call (Ct.two (samePosts_spec (S := two (plO wa wc qs) (two (sl 66 3 postC la lc ls) Q)) (xs := qs) (ys := ls) (prd_plO hqb).l (PRd.r ⟨Srd.two1 Srd.own, fun p hp => ⟨Srd.two2 (hlq p hp).1, (hlq p hp).2⟩⟩) (by omega)) (by rintro _ _ ⟨_, rfl⟩; exact ⟨_, rfl⟩)) (by repeat constructor) (by repeat constructor))  ?_)
            rintro _ _ ⟨_, ⟨_, ⟨rfl, ⟨⟩⟩, rfl⟩, rfl⟩
            rw [decide_eq_true (show plain1 qs = plain1 ls by rw [hqe, hls])]
            refine Rg.pu 15 rfl rfl (by kernel_rfl) trivial (pu_not rfl) ?_
            refine Rg.end (by kernel_rfl) ?_
            refine Gs.then_n ?_
            refine Gs.cond_ff rfl rfl ?_
            refine Gs.skip ?_
            refine Gs.blk_n ?_
            refine Gs.then_n ?_
            refine Gs.reg ?_
            refine Go.Sl.L.pu rfl rfl trivial (pu_move rfl) ?_
            refine Go.Sl.L.pu rfl rfl trivial (by first | exact pu_addI rfl rfl rfl (by omega) (by omega) | exact pu_add rfl rfl) ?_
            refine Go.Sl.L.pu rfl rfl trivial (pu_assign rfl) ?_
            refine Go.Sl.L.nil ?_
            refine Gs.then_n ?_
            exact Gs.again1 (k + 1) hlt8 (by omega) (by repeat constructor) (by repeat constructor)
          · skip
            refine Gs.exit ?_
            refine Gs.then_x ?_
            refine Gs.then_x ?_
            refine Gs.blk_hit ?_
            refine Gs.blk_n ?_
            refine Gs.then_n ?_
            refine Gs.reg ?_
            refine Go.Sl.L.pu rfl rfl trivial (pu_move rfl) ?_
            refine Go.Sl.L.pu rfl rfl trivial (by first | exact pu_addI rfl rfl rfl (by omega) (by omega) | exact pu_add rfl rfl) ?_
            refine Go.Sl.L.pu rfl rfl trivial (pu_assign rfl) ?_
            refine Go.Sl.L.nil ?_
            refine Gs.then_n ?_
            exact Gs.again1 (j + 1, (ka2, kc2)) hlt7 (by show rs.length - (j + 1) < rs.length - j; omega) (by repeat constructor) (by repeat constructor)
        · skip
          have hge7 : j = rs.length := by have := of_decide_eq_false hc7; omega
          rw [hge7, List.take_length]
          refine Gs.exit ?_
          refine Gs.then_x ?_
          refine Gs.then_x ?_
          refine Gs.blk_hit ?_
          refine Gs.then_n ?_
          refine Gs.seq ?_
          refine Gs.reg ?_
          refine Go.Sl.L.pu rfl rfl trivial (pu_move rfl) ?_
          refine Go.Sl.L.ac rfl rfl trivial (as_call (keys_spec x L W (by omega)) (by repeat constructor) (by repeat constructor)) ?_
          rintro _ _ ⟨_, ⟨va, vc, rfl, rfl⟩, rfl⟩
          have hke : sortK (mkeys W) = sortK (rs.map Rec.key) := by
            rw [← mkeys_plW]
            exact sortK_of hL.wn (sortK_asc hL.keys) ((sortK_perm _).trans hL.wkeys.symm)
          rw [hke]
          refine Go.Sl.L.pu rfl rfl trivial (pu_move rfl) ?_
          refine Go.Sl.L.ac rfl rfl trivial (as_call (Ct.two (sameKeys_spec (S := two (sl 31 2 keyC va vc (sortK (rs.map Rec.key))) (sl 31 2 keyC ka kc (sortK (rs.map Rec.key)))) (xs := sortK (rs.map Rec.key)) (ys := sortK (rs.map Rec.key)) (Srd.two1 Srd.own) (Srd.two2 Srd.own) (by rw [sortK_length, List.length_map]; omega)) (by rintro _ _ ⟨_, rfl⟩; exact ⟨_, rfl⟩)) (by repeat constructor) (by repeat constructor)) ?_
          rintro _ _ ⟨_, ⟨_, ⟨rfl, ⟨⟩⟩, rfl⟩, rfl⟩
          rw [decide_eq_true (rfl : sortK (rs.map Rec.key) = sortK (rs.map Rec.key))]
          refine Go.Sl.L.puBt rfl rfl trivial (pu_move rfl) rfl ?_
          refine Go.Sl.L.ac rfl rfl ⟨_, rfl, rfl⟩ (as_call (awake_spec T) (by repeat constructor) (by repeat constructor)) ?_
          rintro _ _ ⟨_, ⟨rfl, rfl⟩, rfl⟩
          refine Go.Sl.L.pu rfl rfl trivial (by first | exact pu_pick_t rfl rfl | exact pu_pick_f rfl rfl) ?_
          refine Go.Sl.L.pu rfl rfl trivial (pu_assign rfl) ?_
          refine Go.Sl.L.nil ?_
          refine Gs.then_n ?_
          refine Gs.ret ?_
          exact Gs.fin1 Tryz.results3 rfl _ (⟨rfl, rfl⟩) (by repeat constructor)
end Go.Proofs.YtmbikfojljnnkaaGreatDoor
