/- Walk: list (grapevinelaw11). -/
import Derived.Test.YtmbikfojljnnkaaGreatDoorIx7
import Derived.Test.YtmbikfojljnnkaaGreatDoorIx5
namespace Go.Ix
open Go Go.Sl Go.Gv Go.Kv Go.Po Go.Bst
def selB (pfx : Bool) (w v : ByteArray) : Bool := decide (v = w) || (pfx && preB v w)
def selA (pfx : Bool) (w : ByteArray) (T : List WordP) : List Int := (T.filter fun p => selB pfx w p.1).map Prod.snd
theorem selA_snoc (pfx : Bool) (w : ByteArray) (T : List WordP) (p : WordP) : selA pfx w (T ++ [p]) = if selB pfx w p.1 then selA pfx w T ++ [p.2] else selA pfx w T := by
  unfold selA
  rw [List.filter_append, List.map_append]
  cases h : selB pfx w p.1 <;> simp [List.filter, h]
theorem selA_len (pfx : Bool) (w : ByteArray) (T : List WordP) : (selA pfx w T).length ≤ T.length := by
  unfold selA; rw [List.length_map]; exact List.length_filter_le ..
end Go.Ix
namespace Go.Proofs.YtmbikfojljnnkaaGreatDoor
open Go Go.Sl Go.Gv Go.Kv Go.Po Go.Ix Go.Bst
set_option maxRecDepth 100000
/-- What a list of places is, told of records. -/
def listP (pfx : Bool) (w : ByteArray) (rs : List Rec) : List PostP := rs.foldl (fun L r => putP L (r.key, selA pfx w (toksV r.t))) []
theorem toks_at {l : List ByteArray} {k : Nat} {p : WordP} (h : (toksOf l 0)[k]? = some p) : p.2 = (k : Int) := by
  unfold toksOf at h
  rw [List.getElem?_map] at h
  obtain ⟨q, hq, rfl⟩ := Option.map_eq_some_iff.1 h
  rw [List.getElem?_zipIdx] at hq
  obtain ⟨v, -, rfl⟩ := Option.map_eq_some_iff.1 hq
  simp
theorem list_spec {h0 : Hp} (T : TabX h0) {ra : Option Addr} {rc : Nat} {rs : List Rec} (hl : rs.length ≤ 900) (w : ByteArray) (pfx : Bool) :
    Ct Tryz.prog 18 [.slice ra rs.length rc, .string w, .bool pfx] [sl 35 5 recC ra rc rs, ro h0]
      (fun v hs => ∃ a c qs Q, v = .slice a qs.length c ∧ plain1 qs = listP pfx w rs ∧ (∀ p ∈ qs, Srd Q 1 intC p.t.a p.t.xs ∧ p.t.xs.length ≤ 1000) ∧ qs.length ≤ rs.length ∧ hs = [sl 35 5 recC ra rc rs, ro h0, two (sl 66 3 postC a c qs) Q]) := by
  refine Ct.intro Tryz.func18 rfl (by kernel_rfl) 79 Tryz.ntmps18 (Nat.le_of_ble_eq_true rfl) fun w0 R => ?_
  refine Gs.slAddr (xs := rs) (SlH.own (E := 35) (enc := recC) (a := ra) (c := rc) (by repeat constructor)) fun rb ro' hra => ?_
  refine Gs.seq ?_
  refine Gs.reg ?_
  refine Go.Sl.L.pu rfl rfl trivial (pu_assign rfl) ?_
  refine Go.Sl.L.nil ?_
  refine Gs.then_n ?_
  refine Gs.seq ?_
  refine Gs.reg ?_
  refine Go.Sl.L.pu rfl rfl trivial (pu_assign rfl) ?_
  refine Go.Sl.L.nil ?_
  refine Gs.then_n ?_
  refine Gs.seq ?_
  refine Gs.seq ?_
  refine Gs.reg ?_
  refine Go.Sl.L.pu rfl rfl trivial (pu_assign rfl) ?_
  refine Go.Sl.L.nil ?_
  refine Gs.slNil 66 3 postC (Gs.bigNil ?_)
  refine Gs.then_n ?_
  refine Gs.block ?_
  refine Gs.loop1 (fun s : Nat × (Option Addr × Nat) × List PostV × HProp => s.1 ≤ rs.length ∧ plain1 s.2.2.1 = listP pfx w (rs.take s.1) ∧ (∀ p ∈ s.2.2.1, Srd s.2.2.2 1 intC p.t.a p.t.xs ∧ p.t.xs.length ≤ 1000) ∧ s.2.2.1.length ≤ s.1) (fun s => [(0, .slice ra rs.length rc), (1, .string w), (2, .bool pfx), (7, .slice s.2.1.1 s.2.2.1.length s.2.1.2), (8, int s.1)]) (fun s => [sl 35 5 recC ra rc rs, ro h0, sl 66 3 postC s.2.1.1 s.2.1.2 s.2.2.1, s.2.2.2] ++ R) (fun s => rs.length - s.1) (0, (none, 0), [], big []) (⟨Nat.zero_le _, rfl, fun _ h => (by cases h), Nat.zero_le _⟩) (by repeat constructor) (by repeat constructor) (fun s hs => ?_)
  obtain ⟨i, ⟨oa, oc⟩, ps, Q⟩ := s
  obtain ⟨hi, hpl, hQ, hpsl⟩ := hs
  dsimp only at hi hpl hQ hpsl ⊢
  refine Gs.seq ?_
  refine Gs.seq ?_
  refine Gs.reg ?_
  refine Go.Sl.L.pu rfl rfl trivial (pu_move rfl) ?_
  refine Go.Sl.L.pu rfl rfl trivial (pu_move rfl) ?_
  refine Go.Sl.L.pu rfl rfl trivial (pu_len Tryz.underlying27 rfl) ?_
  refine Go.Sl.L.pu rfl rfl trivial (pu_lt rfl rfl) ?_
  refine Go.Sl.L.nil ?_
  refine Gs.then_n ?_
  refine Gs.cond rfl (fun hc0 => ?_) (fun hc0 => ?_)
  · skip
    have hlt : i < rs.length := by have := of_decide_eq_true hc0; omega
    obtain ⟨r, hr⟩ : ∃ z, rs[i]? = some z := ⟨rs[i], by simp [hlt]⟩
    obtain rfl := hra (by rintro h; rw [h] at hlt; simp at hlt)
    have hnx := fold_take (fun L (r : Rec) => putP L (r.key, selA pfx w (toksV r.t))) [] hr
    refine Gs.skip ?_
    refine Gs.then_n ?_
    refine Gs.seq ?_
    refine Gs.block ?_
    refine Gs.seq ?_
    refine Gs.reg ?_
    refine Go.Sl.L.pu rfl rfl trivial (pu_move rfl) ?_
    refine Go.Sl.L.pu rfl rfl trivial (pu_move rfl) ?_
    refine Go.Sl.L.pu rfl rfl trivial (pu_ia se_27 rfl rfl (by omega) (by omega)) ?_
    refine Go.Sl.L.pu rfl rfl trivial (pu_fa fa_35_2 rfl) ?_
    refine Go.Sl.L.rd rfl rfl trivial (rd_ld na_9 rfl (Rdc.elp (f := 4) 1 (SlH.own (xs := rs) (E := 35) (enc := recC) (sz := 5) (by repeat constructor)) hr rfl rfl)) ?_
    refine Go.Sl.L.ac rfl rfl trivial (as_call (of1_spec T r.t) (by repeat constructor) (by repeat constructor)) ?_
    rintro _ _ ⟨_, ⟨ta, tc, rfl, rfl⟩, rfl⟩
    refine Go.Sl.L.pu rfl rfl trivial (pu_assign rfl) ?_
    refine Go.Sl.L.nil ?_
    have htl := toks_le121 r
    refine Gs.slAddr (xs := toksV r.t) (SlH.own (E := 52) (enc := wordC) (a := ta) (c := tc) (by repeat constructor)) fun tb tof hta => ?_
    refine Gs.then_n ?_
    refine Gs.seq ?_
    refine Gs.reg ?_
    refine Go.Sl.L.pu rfl rfl trivial (pu_move rfl) ?_
    refine Go.Sl.L.pu rfl rfl trivial (pu_move rfl) ?_
    refine Go.Sl.L.pu rfl rfl trivial (pu_ia se_27 rfl rfl (by omega) (by omega)) ?_
    refine Go.Sl.L.pu rfl rfl trivial (pu_fa fa_35_0 rfl) ?_
    refine Go.Sl.L.rd rfl rfl trivial (rd_lda ag_31 rfl (Rdc.elp (f := 0) 2 (SlH.own (xs := rs) (E := 35) (enc := recC) (sz := 5) (by repeat constructor)) hr rfl rfl) rfl) ?_
    refine Go.Sl.L.pu rfl rfl trivial (pu_build bd_66 (by repeat constructor) rfl) ?_
    refine Go.Sl.L.ac rfl rfl trivial (ac_alloc zv_66 rfl) ?_
    rintro _ _ ⟨pb, rfl, rfl⟩
    refine Go.Sl.L.ac0 rfl trivial (ac_st sz_66 rfl rfl (by repeat constructor) rfl rfl rfl rfl) ?_
    rintro _ _ rfl
    refine Go.Sl.L.nil ?_
    refine Gs.then_n ?_
    refine Gs.seq ?_
    refine Gs.seq ?_
    refine Gs.reg ?_
    refine Go.Sl.L.pu rfl rfl trivial (pu_assign rfl) ?_
    refine Go.Sl.L.nil ?_
    refine Gs.slNil 3 1 intC ?_
    refine Gs.then_n ?_
    refine Gs.block ?_
    refine Gs.loop1 (fun s : Nat × (Option Addr × Nat) × List Int => s.1 ≤ (toksV r.t).length ∧ s.2.2 = selA pfx w ((toksV r.t).take s.1)) (fun s => [(0, .slice (some ⟨rb, ro', none⟩) rs.length rc), (1, .string w), (2, .bool pfx), (7, .slice oa ps.length oc), (8, int i), (9, .slice ta (toksV r.t).length tc), (10, ptr pb), (11, int s.1)]) (fun s => [cl pb 66 (postC ⟨r.key, ⟨s.2.1.1, s.2.2, s.2.1.2⟩⟩), sl 3 1 intC s.2.1.1 s.2.1.2 s.2.2, sl 52 2 wordC ta tc (toksV r.t), sl 35 5 recC (some ⟨rb, ro', none⟩) rc rs, ro h0, sl 66 3 postC oa oc ps, Q] ++ R) (fun s => (toksV r.t).length - s.1) (0, (none, 0), []) (⟨Nat.zero_le _, rfl⟩) (by repeat constructor) (by repeat constructor) (fun s hs1 => ?_)
    obtain ⟨k, ⟨ia, ic⟩, ns⟩ := s
    obtain ⟨hk, hns⟩ := hs1
    dsimp only at hk hns ⊢
    have hnl : ns.length ≤ 121 := by rw [hns]; refine Nat.le_trans (selA_len _ _ _) ?_; rw [List.length_take]; omega
    refine Gs.seq ?_
    refine Gs.seq ?_
    refine Gs.reg ?_
    refine Go.Sl.L.pu rfl rfl trivial (pu_move rfl) ?_
    refine Go.Sl.L.pu rfl rfl trivial (pu_move rfl) ?_
    refine Go.Sl.L.pu rfl rfl trivial (pu_len Tryz.underlying49 rfl) ?_
    refine Go.Sl.L.pu rfl rfl trivial (pu_lt rfl rfl) ?_
    refine Go.Sl.L.nil ?_
    refine Gs.then_n ?_
    refine Gs.cond rfl (fun hc1 => ?_) (fun hc1 => ?_)
    · skip
      have hlt1 : k < (toksV r.t).length := by have := of_decide_eq_true hc1; omega
      obtain ⟨p, hp⟩ : ∃ z, (toksV r.t)[k]? = some z := ⟨(toksV r.t)[k], by simp [hlt1]⟩
      obtain rfl := hta (by rintro h; rw [h] at hlt1; simp at hlt1)
      have hpk : p.2 = (k : Int) := toks_at hp
      have hns2 : selA pfx w ((toksV r.t).take (k + 1)) = if selB pfx w p.1 then ns ++ [(k : Int)] else ns := by rw [List.take_add_one, hp, ← hpk, hns]; exact selA_snoc pfx w _ p
      refine Gs.skip ?_
      refine Gs.then_n ?_
      refine Gs.seq ?_
      refine Gs.block ?_
      refine Gs.seq ?_
      refine Gs.reg ?_
      refine Go.Sl.L.pu rfl rfl trivial (pu_move rfl) ?_
      refine Go.Sl.L.pu rfl rfl trivial (pu_move rfl) ?_
      refine Go.Sl.L.pu rfl rfl trivial (pu_ia se_49 rfl rfl (by omega) (by omega)) ?_
      refine Go.Sl.L.pu rfl rfl trivial (pu_fa fa_52_0 rfl) ?_
      refine Go.Sl.L.rd rfl rfl trivial (rd_ld na_9 rfl (Rdc.elp (f := 0) 1 (SlH.own (xs := toksV r.t) (E := 52) (enc := wordC) (sz := 2) (by repeat constructor)) hp rfl rfl)) ?_
      refine Go.Sl.L.pu rfl rfl trivial (pu_move rfl) ?_
      refine Go.Sl.L.pu rfl rfl trivial (pu_eqS rfl rfl) ?_
      refine Go.Sl.L.puB rfl rfl trivial (pu_move rfl) (fun hg7 => ?_) (fun hg7 => ?_)
      · skip
        have hsel : selB pfx w p.1 = true := by unfold selB; rw [hg7]; rfl
        refine Go.Sl.L.off rfl rfl rfl rfl rfl rfl ?_
        refine Go.Sl.L.off rfl rfl rfl rfl rfl rfl ?_
        refine Go.Sl.L.offU rfl rfl rfl rfl rfl ?_
        refine Go.Sl.L.offU rfl rfl rfl rfl rfl ?_
        refine Go.Sl.L.offU rfl rfl rfl rfl rfl ?_
        refine Go.Sl.L.offU rfl rfl rfl rfl rfl ?_
        refine Go.Sl.L.offU rfl rfl rfl rfl rfl ?_
        refine Go.Sl.L.offU rfl rfl rfl rfl rfl ?_
        refine Go.Sl.L.offU rfl rfl rfl rfl rfl ?_
        refine Go.Sl.L.offU rfl rfl rfl rfl rfl ?_
        refine Go.Sl.L.offU rfl rfl rfl rfl rfl ?_
        refine Go.Sl.L.off rfl rfl rfl rfl rfl rfl ?_
        refine Go.Sl.L.off rfl rfl rfl rfl rfl rfl ?_
        refine Go.Sl.L.offU rfl rfl rfl rfl rfl ?_
        refine Go.Sl.L.offU rfl rfl rfl rfl rfl ?_
        refine Go.Sl.L.offU rfl rfl rfl rfl rfl ?_
        refine Go.Sl.L.offU rfl rfl rfl rfl rfl ?_
        refine Go.Sl.L.offU rfl rfl rfl rfl rfl ?_
        refine Go.Sl.L.offU rfl rfl rfl rfl rfl ?_
        refine Go.Sl.L.offU rfl rfl rfl rfl rfl ?_
        refine Go.Sl.L.offU rfl rfl rfl rfl rfl ?_
        refine Go.Sl.L.offU rfl rfl rfl rfl rfl ?_
        refine Go.Sl.L.offU rfl rfl rfl rfl rfl ?_
        refine Go.Sl.L.off rfl rfl rfl rfl rfl rfl ?_
        refine Go.Sl.L.pu rfl rfl trivial (by first | exact pu_pick_t rfl rfl | exact pu_pick_f rfl rfl) ?_
        refine Go.Sl.L.nil ?_
        refine Gs.then_n ?_
        refine Gs.cond_t rfl ?_
        refine Gs.reg ?_
        refine Go.Sl.L.pu rfl rfl trivial (pu_fa fa_66_1 rfl) ?_
        refine Go.Sl.L.rd rfl rfl trivial (rd_ld na_64 rfl (Rdc.cl1 (by repeat constructor) rfl)) ?_
        refine Go.Sl.L.pu rfl rfl trivial (pu_move rfl) ?_
        refine Go.Sl.L.ac rfl rfl trivial (ac_lit encC_3 ([(k : Int)]) et_64 ek_3 rfl (by repeat constructor) rfl rfl (by decide)) ?_
        rintro _ _ ⟨a72, rfl, rfl⟩
        refine Go.Sl.L.ac rfl rfl trivial (ac_append (xs := ns) (ys := [(k : Int)]) et_64 ek_3 rfl rfl (by repeat constructor) (SrcH.sl Tryz.underlying64 ek_3 (SlH.own (by repeat constructor))) (by first | omega | (simp; omega)) (by first | omega | (simp; omega))) ?_
        rintro _ _ ⟨a73, c73, rfl, rfl⟩
        refine Go.Sl.L.pu rfl rfl trivial (pu_fa fa_66_1 rfl) ?_
        refine Go.Sl.L.ac0 rfl trivial (ac_st sz_64 rfl rfl (by repeat constructor) rfl rfl rfl rfl) ?_
        rintro _ _ rfl
        refine Go.Sl.L.nil ?_
        refine Gs.blk_n ?_
        refine Gs.then_n ?_
        refine Gs.reg ?_
        refine Go.Sl.L.pu rfl rfl trivial (pu_move rfl) ?_
        refine Go.Sl.L.pu rfl rfl trivial (by first | exact pu_addI rfl rfl rfl (by omega) (by omega) | exact pu_add rfl rfl) ?_
        refine Go.Sl.L.pu rfl rfl trivial (pu_assign rfl) ?_
        refine Go.Sl.L.nil ?_
        refine Gs.then_n ?_
        first | exact Gs.again1 (k + 1, (ia, ic), ns) ⟨hlt1, by rw [hns2, hsel]; rfl⟩ (by show (toksV r.t).length - (k + 1) < (toksV r.t).length - k; omega) (by repeat constructor) (by repeat constructor) | exact Gs.again1 (k + 1, (a73, c73), ns ++ [(k : Int)]) ⟨hlt1, by rw [hns2, hsel]; rfl⟩ (by show (toksV r.t).length - (k + 1) < (toksV r.t).length - k; omega) (by repeat constructor) (by repeat constructor)
      · skip
        refine Go.Sl.L.pu rfl rfl ⟨_, rfl, rfl⟩ (pu_move rfl) ?_
        refine Go.Sl.L.puB rfl rfl ⟨_, rfl, rfl⟩ (pu_move rfl) (fun hg9 => ?_) (fun hg9 => ?_)
        · skip
          refine Go.Sl.L.pu rfl rfl ⟨_, rfl, rfl⟩ (pu_move rfl) ?_
          refine Go.Sl.L.pu rfl rfl ⟨_, rfl, rfl⟩ (pu_move rfl) ?_
          refine Go.Sl.L.pu rfl rfl ⟨_, rfl, rfl⟩ (pu_ia se_49 rfl rfl (by omega) (by omega)) ?_
          refine Go.Sl.L.pu rfl rfl ⟨_, rfl, rfl⟩ (pu_fa fa_52_0 rfl) ?_
          refine Go.Sl.L.rd rfl rfl ⟨_, rfl, rfl⟩ (rd_ld na_9 rfl (Rdc.elp (f := 0) 1 (SlH.own (xs := toksV r.t) (E := 52) (enc := wordC) (sz := 2) (by repeat constructor)) hp rfl rfl)) ?_
          refine Go.Sl.L.pu rfl rfl ⟨_, rfl, rfl⟩ (pu_lenS Tryz.underlying9 rfl) ?_
          refine Go.Sl.L.pu rfl rfl ⟨_, rfl, rfl⟩ (pu_move rfl) ?_
          refine Go.Sl.L.pu rfl rfl ⟨_, rfl, rfl⟩ (pu_lenS Tryz.underlying9 rfl) ?_
          refine Go.Sl.L.pu rfl rfl ⟨_, rfl, rfl⟩ (pu_ge rfl rfl) ?_
          refine Go.Sl.L.pu rfl rfl ⟨_, rfl, rfl⟩ (by first | exact pu_pick_t rfl rfl | exact pu_pick_f rfl rfl) ?_
          refine Go.Sl.L.puB rfl rfl ⟨_, rfl, rfl⟩ (pu_move rfl) (fun hg20 => ?_) (fun hg20 => ?_)
          · skip
            have hsz : w.size ≤ p.1.size := by have := of_decide_eq_true hg20; omega
            have hpb := preB_long hsz
            refine Go.Sl.L.pu rfl rfl ⟨_, rfl, rfl⟩ (pu_move rfl) ?_
            refine Go.Sl.L.pu rfl rfl ⟨_, rfl, rfl⟩ (pu_move rfl) ?_
            refine Go.Sl.L.pu rfl rfl ⟨_, rfl, rfl⟩ (pu_ia se_49 rfl rfl (by omega) (by omega)) ?_
            refine Go.Sl.L.pu rfl rfl ⟨_, rfl, rfl⟩ (pu_fa fa_52_0 rfl) ?_
            refine Go.Sl.L.rd rfl rfl ⟨_, rfl, rfl⟩ (rd_ld na_9 rfl (Rdc.elp (f := 0) 1 (SlH.own (xs := toksV r.t) (E := 52) (enc := wordC) (sz := 2) (by repeat constructor)) hp rfl rfl)) ?_
            refine Go.Sl.L.pu rfl rfl ⟨_, rfl, rfl⟩ (pu_move rfl) ?_
            refine Go.Sl.L.pu rfl rfl ⟨_, rfl, rfl⟩ (pu_lenS Tryz.underlying9 rfl) ?_
            refine Go.Sl.L.pu rfl rfl ⟨_, rfl, rfl⟩ (pu_sliceHS Tryz.underlying9 rfl rfl (by omega) (by omega)) ?_
            refine Go.Sl.L.pu rfl rfl ⟨_, rfl, rfl⟩ (pu_move rfl) ?_
            refine Go.Sl.L.pu rfl rfl ⟨_, rfl, rfl⟩ (pu_eqS rfl rfl) ?_
            refine Go.Sl.L.pu rfl rfl ⟨_, rfl, rfl⟩ (by first | exact pu_pick_t rfl rfl | exact pu_pick_f rfl rfl) ?_
            refine Go.Sl.L.pu rfl rfl trivial (by first | exact pu_pick_t rfl rfl | exact pu_pick_f rfl rfl) ?_
            refine Go.Sl.L.nil ?_
            refine Gs.then_n ?_
            refine Gs.cond rfl (fun hc2 => ?_) (fun hc2 => ?_)
            · skip
              have hsel : selB pfx w p.1 = true := by
                have e : p.1.extract 0 w.size = w := by have := of_decide_eq_true hc2; simpa using this
                unfold selB; rw [show pfx = true from hg9, hpb, decide_eq_true e]; simp
              refine Gs.reg ?_
              refine Go.Sl.L.pu rfl rfl trivial (pu_fa fa_66_1 rfl) ?_
              refine Go.Sl.L.rd rfl rfl trivial (rd_ld na_64 rfl (Rdc.cl1 (by repeat constructor) rfl)) ?_
              refine Go.Sl.L.pu rfl rfl trivial (pu_move rfl) ?_
              refine Go.Sl.L.ac rfl rfl trivial (ac_lit encC_3 ([(k : Int)]) et_64 ek_3 rfl (by repeat constructor) rfl rfl (by decide)) ?_
              rintro _ _ ⟨a72, rfl, rfl⟩
              refine Go.Sl.L.ac rfl rfl trivial (ac_append (xs := ns) (ys := [(k : Int)]) et_64 ek_3 rfl rfl (by repeat constructor) (SrcH.sl Tryz.underlying64 ek_3 (SlH.own (by repeat constructor))) (by first | omega | (simp; omega)) (by first | omega | (simp; omega))) ?_
              rintro _ _ ⟨a73, c73, rfl, rfl⟩
              refine Go.Sl.L.pu rfl rfl trivial (pu_fa fa_66_1 rfl) ?_
              refine Go.Sl.L.ac0 rfl trivial (ac_st sz_64 rfl rfl (by repeat constructor) rfl rfl rfl rfl) ?_
              rintro _ _ rfl
              refine Go.Sl.L.nil ?_
              refine Gs.blk_n ?_
              refine Gs.then_n ?_
              refine Gs.reg ?_
              refine Go.Sl.L.pu rfl rfl trivial (pu_move rfl) ?_
              refine Go.Sl.L.pu rfl rfl trivial (by first | exact pu_addI rfl rfl rfl (by omega) (by omega) | exact pu_add rfl rfl) ?_
              refine Go.Sl.L.pu rfl rfl trivial (pu_assign rfl) ?_
              refine Go.Sl.L.nil ?_
              refine Gs.then_n ?_
              first | exact Gs.again1 (k + 1, (ia, ic), ns) ⟨hlt1, by rw [hns2, hsel]; rfl⟩ (by show (toksV r.t).length - (k + 1) < (toksV r.t).length - k; omega) (by repeat constructor) (by repeat constructor) | exact Gs.again1 (k + 1, (a73, c73), ns ++ [(k : Int)]) ⟨hlt1, by rw [hns2, hsel]; rfl⟩ (by show (toksV r.t).length - (k + 1) < (toksV r.t).length - k; omega) (by repeat constructor) (by repeat constructor)
            · skip
              have hsel : selB pfx w p.1 = false := by
                unfold selB; rw [hg7, hpb, decide_eq_false (by have := of_decide_eq_false hc2; simpa using this), Bool.and_false]; rfl
              refine Gs.skip ?_
              refine Gs.blk_n ?_
              refine Gs.then_n ?_
              refine Gs.reg ?_
              refine Go.Sl.L.pu rfl rfl trivial (pu_move rfl) ?_
              refine Go.Sl.L.pu rfl rfl trivial (by first | exact pu_addI rfl rfl rfl (by omega) (by omega) | exact pu_add rfl rfl) ?_
              refine Go.Sl.L.pu rfl rfl trivial (pu_assign rfl) ?_
              refine Go.Sl.L.nil ?_
              refine Gs.then_n ?_
              first | exact Gs.again1 (k + 1, (ia, ic), ns) ⟨hlt1, by rw [hns2, hsel]; rfl⟩ (by show (toksV r.t).length - (k + 1) < (toksV r.t).length - k; omega) (by repeat constructor) (by repeat constructor) | exact Gs.again1 (k + 1, (a73, c73), ns ++ [(k : Int)]) ⟨hlt1, by rw [hns2, hsel]; rfl⟩ (by show (toksV r.t).length - (k + 1) < (toksV r.t).length - k; omega) (by repeat constructor) (by repeat constructor)
          · skip
            have hsel : selB pfx w p.1 = false := by
              unfold selB; rw [hg7, preB_short (by have := of_decide_eq_false hg20; omega), Bool.and_false]; rfl
            refine Go.Sl.L.off rfl rfl rfl rfl rfl rfl ?_
            refine Go.Sl.L.off rfl rfl rfl rfl rfl rfl ?_
            refine Go.Sl.L.off rfl rfl rfl rfl rfl rfl ?_
            refine Go.Sl.L.off rfl rfl rfl rfl rfl rfl ?_
            refine Go.Sl.L.off rfl rfl rfl rfl rfl rfl ?_
            refine Go.Sl.L.off rfl rfl rfl rfl rfl rfl ?_
            refine Go.Sl.L.off rfl rfl rfl rfl rfl rfl ?_
            refine Go.Sl.L.off rfl rfl rfl rfl rfl rfl ?_
            refine Go.Sl.L.off rfl rfl rfl rfl rfl rfl ?_
            refine Go.Sl.L.off rfl rfl rfl rfl rfl rfl ?_
            refine Go.Sl.L.pu rfl rfl ⟨_, rfl, rfl⟩ (by first | exact pu_pick_t rfl rfl | exact pu_pick_f rfl rfl) ?_
            refine Go.Sl.L.pu rfl rfl trivial (by first | exact pu_pick_t rfl rfl | exact pu_pick_f rfl rfl) ?_
            refine Go.Sl.L.nil ?_
            refine Gs.then_n ?_
            refine Gs.cond_f rfl ?_
            refine Gs.skip ?_
            refine Gs.blk_n ?_
            refine Gs.then_n ?_
            refine Gs.reg ?_
            refine Go.Sl.L.pu rfl rfl trivial (pu_move rfl) ?_
            refine Go.Sl.L.pu rfl rfl trivial (by first | exact pu_addI rfl rfl rfl (by omega) (by omega) | exact pu_add rfl rfl) ?_
            refine Go.Sl.L.pu rfl rfl trivial (pu_assign rfl) ?_
            refine Go.Sl.L.nil ?_
            refine Gs.then_n ?_
            first | exact Gs.again1 (k + 1, (ia, ic), ns) ⟨hlt1, by rw [hns2, hsel]; rfl⟩ (by show (toksV r.t).length - (k + 1) < (toksV r.t).length - k; omega) (by repeat constructor) (by repeat constructor) | exact Gs.again1 (k + 1, (a73, c73), ns ++ [(k : Int)]) ⟨hlt1, by rw [hns2, hsel]; rfl⟩ (by show (toksV r.t).length - (k + 1) < (toksV r.t).length - k; omega) (by repeat constructor) (by repeat constructor)
        · skip
          have hsel : selB pfx w p.1 = false := by unfold selB; rw [hg7, show pfx = false from hg9]; rfl
          refine Go.Sl.L.off rfl rfl rfl rfl rfl rfl ?_
          refine Go.Sl.L.off rfl rfl rfl rfl rfl rfl ?_
          refine Go.Sl.L.off rfl rfl rfl rfl rfl rfl ?_
          refine Go.Sl.L.off rfl rfl rfl rfl rfl rfl ?_
          refine Go.Sl.L.off rfl rfl rfl rfl rfl rfl ?_
          refine Go.Sl.L.off rfl rfl rfl rfl rfl rfl ?_
          refine Go.Sl.L.off rfl rfl rfl rfl rfl rfl ?_
          refine Go.Sl.L.off rfl rfl rfl rfl rfl rfl ?_
          refine Go.Sl.L.off rfl rfl rfl rfl rfl rfl ?_
          refine Go.Sl.L.pu rfl rfl ⟨_, rfl, rfl⟩ (by first | exact pu_pick_t rfl rfl | exact pu_pick_f rfl rfl) ?_
          refine Go.Sl.L.pu rfl rfl ⟨_, rfl, rfl⟩ (pu_move rfl) ?_
          refine Go.Sl.L.off rfl rfl rfl rfl rfl rfl ?_
          refine Go.Sl.L.off rfl rfl rfl rfl rfl rfl ?_
          refine Go.Sl.L.off rfl rfl rfl rfl rfl rfl ?_
          refine Go.Sl.L.off rfl rfl rfl rfl rfl rfl ?_
          refine Go.Sl.L.off rfl rfl rfl rfl rfl rfl ?_
          refine Go.Sl.L.off rfl rfl rfl rfl rfl rfl ?_
          refine Go.Sl.L.off rfl rfl rfl rfl rfl rfl ?_
          refine Go.Sl.L.off rfl rfl rfl rfl rfl rfl ?_
          refine Go.Sl.L.off rfl rfl rfl rfl rfl rfl ?_
          refine Go.Sl.L.off rfl rfl rfl rfl rfl rfl ?_
          refine Go.Sl.L.pu rfl rfl ⟨_, rfl, rfl⟩ (by first | exact pu_pick_t rfl rfl | exact pu_pick_f rfl rfl) ?_
          refine Go.Sl.L.pu rfl rfl trivial (by first | exact pu_pick_t rfl rfl | exact pu_pick_f rfl rfl) ?_
          refine Go.Sl.L.nil ?_
          refine Gs.then_n ?_
          refine Gs.cond_f rfl ?_
          refine Gs.skip ?_
          refine Gs.blk_n ?_
          refine Gs.then_n ?_
          refine Gs.reg ?_
          refine Go.Sl.L.pu rfl rfl trivial (pu_move rfl) ?_
          refine Go.Sl.L.pu rfl rfl trivial (by first | exact pu_addI rfl rfl rfl (by omega) (by omega) | exact pu_add rfl rfl) ?_
          refine Go.Sl.L.pu rfl rfl trivial (pu_assign rfl) ?_
          refine Go.Sl.L.nil ?_
          refine Gs.then_n ?_
          first | exact Gs.again1 (k + 1, (ia, ic), ns) ⟨hlt1, by rw [hns2, hsel]; rfl⟩ (by show (toksV r.t).length - (k + 1) < (toksV r.t).length - k; omega) (by repeat constructor) (by repeat constructor) | exact Gs.again1 (k + 1, (a73, c73), ns ++ [(k : Int)]) ⟨hlt1, by rw [hns2, hsel]; rfl⟩ (by show (toksV r.t).length - (k + 1) < (toksV r.t).length - k; omega) (by repeat constructor) (by repeat constructor)
    · skip
      have hge1 : k = (toksV r.t).length := by have := of_decide_eq_false hc1; omega
      rw [hge1, List.take_length] at hns
      refine Gs.exit ?_
      refine Gs.then_x ?_
      refine Gs.then_x ?_
      refine Gs.blk_hit ?_
      refine Gs.then_n ?_
      refine Gs.takes (As := [Q, sl 3 1 intC ia ic ns]) (by repeat constructor) (Gs.toTwo ?_)
      refine Gs.takes (As := [sl 66 3 postC oa oc ps, two Q (sl 3 1 intC ia ic ns)]) (by repeat constructor) (Gs.toTwo ?_)
      have hQ2 : ∀ p ∈ putV ps ⟨r.key, ⟨ia, ns, ic⟩⟩, Srd (two Q (sl 3 1 intC ia ic ns)) 1 intC p.t.a p.t.xs ∧ p.t.xs.length ≤ 1000 := fun p hp => by
        rcases putV_mem hp with rfl | hp
        · exact ⟨Srd.two2 Srd.own, by show ns.length ≤ 1000; omega⟩
        · exact ⟨Srd.two1 (hQ p hp).1, (hQ p hp).2⟩
      have hlv := putV_le ps ⟨r.key, ⟨ia, ns, ic⟩⟩
      have hpl2 : plain1 (putV ps ⟨r.key, ⟨ia, ns, ic⟩⟩) = listP pfx w (rs.take (i + 1)) := by
        rw [putV_plain, listP, hnx, hpl, hns]; rfl
      refine Gs.reg ?_
      refine Go.Sl.L.pu rfl rfl trivial (pu_move rfl) ?_
      refine Go.Sl.L.rd rfl rfl trivial (rd_lda ag_66 rfl (Rdc.cl 3 (by repeat constructor) rfl) rfl) ?_
      refine Go.Sl.L.ac rfl rfl trivial (as_call (put10_spec (S := two (sl 66 3 postC oa oc ps) (two Q (sl 3 1 intC ia ic ns))) (ps := ps) (p := ⟨r.key, ⟨ia, ns, ic⟩⟩) ⟨Srd.two1 Srd.own, fun p hp => ⟨Srd.two2 (Srd.two1 (hQ p hp).1), (hQ p hp).2⟩⟩ (by omega) (Srd.two2 (Srd.two2 Srd.own)) (by show ns.length ≤ 1000; omega)) (by repeat constructor) (by repeat constructor)) ?_
      rintro _ _ ⟨_, ⟨na, nc, rfl, rfl⟩, rfl⟩
      refine Go.Sl.L.pu rfl rfl trivial (pu_assign rfl) ?_
      refine Go.Sl.L.nil ?_
      refine Gs.takes (As := [two (sl 66 3 postC oa oc ps) (two Q (sl 3 1 intC ia ic ns))]) (by repeat constructor) (Gs.two ?_)
      refine Gs.blk_n ?_
      refine Gs.then_n ?_
      refine Gs.reg ?_
      refine Go.Sl.L.pu rfl rfl trivial (pu_move rfl) ?_
      refine Go.Sl.L.pu rfl rfl trivial (by first | exact pu_addI rfl rfl rfl (by omega) (by omega) | exact pu_add rfl rfl) ?_
      refine Go.Sl.L.pu rfl rfl trivial (pu_assign rfl) ?_
      refine Go.Sl.L.nil ?_
      refine Gs.then_n ?_
      exact Gs.again1 (i + 1, (na, nc), putV ps ⟨r.key, ⟨ia, ns, ic⟩⟩, two Q (sl 3 1 intC ia ic ns)) ⟨hlt, hpl2, hQ2, by show (putV ps ⟨r.key, ⟨ia, ns, ic⟩⟩).length ≤ i + 1; omega⟩ (by show rs.length - (i + 1) < rs.length - i; omega) (by repeat constructor) (by repeat constructor)
  · skip
    have hge : i = rs.length := by have := of_decide_eq_false hc0; omega
    rw [hge, List.take_length] at hpl
    refine Gs.exit ?_
    refine Gs.then_x ?_
    refine Gs.then_x ?_
    refine Gs.blk_hit ?_
    refine Gs.then_n ?_
    refine Gs.seq ?_
    refine Gs.reg ?_
    refine Go.Sl.L.pu rfl rfl trivial (pu_move rfl) ?_
    refine Go.Sl.L.pu rfl rfl trivial (pu_assign rfl) ?_
    refine Go.Sl.L.nil ?_
    refine Gs.then_n ?_
    refine Gs.ret ?_
    refine Gs.takes (As := [sl 66 3 postC oa oc ps, Q]) (by repeat constructor) (Gs.toTwo ?_)
    exact Gs.fin1 Tryz.results18 rfl _ (⟨oa, oc, ps, Q, rfl, hpl, hQ, by omega, rfl⟩) (by repeat constructor)
end Go.Proofs.YtmbikfojljnnkaaGreatDoor
