/- Walk: grapevinelaw18.HeldDrops. -/
import Derived.Test.YthikmfpfbfjbiaaDoorLaw18
namespace Go.Proofs.YthikmfpfbfjbiaaDoor
open Go Go.Sl Go.Gv Go.Kv
set_option maxRecDepth 100000

theorem filter_at {α : Type} {p : α → Bool} : ∀ {l : List α} {i : Nat} {x : α}, l[i]? = some x → p x = true → (l.filter p)[((l.take i).filter p).length]? = some x
  | [], _, _, h, _ => by simp at h
  | y :: l, 0, x, h, hp => by simp at h; subst h; simp [hp]
  | y :: l, i + 1, x, h, hp => by
    have := filter_at (l := l) (i := i) (x := x) (by simpa using h) hp
    simp only [List.take_succ_cons, List.filter_cons]
    split <;> simpa using this
theorem filter_step {α : Type} {p : α → Bool} {l : List α} {i : Nat} {x : α} (h : l[i]? = some x) : ((l.take (i + 1)).filter p).length = ((l.take i).filter p).length + (if p x then 1 else 0) := by
  rw [List.take_add_one, h, List.filter_append]
  by_cases hp : p x <;> simp [hp]
theorem keys_drop {ws : List Int} {L : List Rec} (hn : (L.map Rec.key).Nodup) : sortK ((dropL ws L).map Rec.key) = (sortK (L.map Rec.key)).filter fun k => !dropB ws k := by
  have hsub : List.Sublist ((dropL ws L).map Rec.key) (L.map Rec.key) := (List.filter_sublist ..).map _
  refine sortK_of (List.Nodup.sublist hsub hn) (List.Pairwise.sublist (List.filter_sublist ..) (sortK_asc hn)) ?_
  have : (dropL ws L).map Rec.key = (L.map Rec.key).filter fun k => !dropB ws k := by
    unfold dropL; rw [List.filter_map]; rfl
  rw [this]
  exact (sortK_perm _).filter _
theorem dropL_idem (ws : List Int) (L : List Rec) : dropL ws (dropL ws L) = dropL ws L := by
  unfold dropL; rw [List.filter_filter]; simp
/-- One in which these were put, in this order. -/
def puts (most : Int) (rs : List Rec) : List Rec := rs.foldl (fun L r => putL most L r) []
theorem puts_snoc (most : Int) (rs : List Rec) (r : Rec) : puts most (rs ++ [r]) = putL most (puts most rs) r := by simp [puts, List.foldl_append]
/-- What may be held. -/
def May (L : List Rec) : Prop := ∀ r ∈ L, recB r = true
theorem May.pos {L : List Rec} (h : May L) : ∀ r ∈ L, 0 ≤ r.o := fun r hr => by
  have := h r hr
  simp only [recB, keyB, Rec.key, Bool.and_eq_true] at this
  exact of_decide_eq_true this.1.1.1.1.1
theorem May.put {L : List Rec} (h : May L) (most : Int) (r : Rec) : May (putL most L r) := by
  unfold putL; split
  · rename_i h0
    unfold putE at h0
    split at h0
    · rename_i hr
      intro x hx
      rcases List.mem_append.1 hx with hx | hx
      · exact h x hx
      · simp at hx; subst hx; exact hr
    · simp at h0
  · exact h
theorem put_length {L : List Rec} {most : Int} (h : (L.length : Int) ≤ most) (r : Rec) : ((putL most L r).length : Int) ≤ most := by
  unfold putL; split
  · rename_i h0
    unfold putE at h0
    split at h0
    · split at h0
      · simp at h0
      · split at h0
        · simp at h0
        · simp; omega
    · simp at h0
  · exact h
theorem puts_may {most : Int} (hm : 0 ≤ most) (rs : List Rec) : May (puts most rs) ∧ ((puts most rs).length : Int) ≤ most := by
  have : ∀ (rs L : List Rec), May L → (L.length : Int) ≤ most → May (rs.foldl (fun L r => putL most L r) L) ∧ ((rs.foldl (fun L r => putL most L r) L).length : Int) ≤ most := by
    intro rs
    induction rs with
    | nil => exact fun L h1 h2 => ⟨h1, h2⟩
    | cons r rs ih => exact fun L h1 h2 => ih _ (h1.put most r) (put_length h2 r)
  exact this rs [] (fun _ h => by cases h) (by simpa using hm)
theorem May.drop {L : List Rec} (h : May L) (ws : List Int) : May (dropL ws L) := fun r hr => h r (List.mem_filter.1 hr).1
theorem May.del {L : List Rec} (h : May L) (k : Key) : May (delL L k) := fun r hr => h r (List.mem_filter.1 hr).1

theorem heldDrops_spec {h0 : Hp} (T : Tabs h0) {ar aw : Option Addr} {cr cw : Nat} {rs : List Rec} {ws : List Int} (hr : slR h0 5 recC ar rs) (hw : slR h0 1 intC aw ws) (hl : rs.length ≤ 9223372036854775807) :
    Ct Tryd.prog 5 [.slice ar rs.length cr, .slice aw ws.length cw] [ro h0] (fun v hs => v = .bool true ∧ hs = [ro h0]) := by
  refine Ct.intro Tryd.func5 rfl (by kernel_rfl) 116 Tryd.ntmps5 (Nat.le_of_ble_eq_true rfl) fun w0 R => ?_
  refine Gs.slAddr (SlH.ro (by repeat constructor) hr) fun rb ro_ hra => ?_
  refine Gs.slAddr (SlH.ro (by repeat constructor) hw) fun wb wo hwa => ?_
  refine Gs.seq ?_
  refine Gs.reg ?_
  refine Go.Sl.L.pu rfl rfl trivial (pu_assign rfl) ?_
  refine Go.Sl.L.nil ?_
  refine Gs.then_n ?_
  refine Gs.seq ?_
  refine Gs.seq ?_
  refine Gs.reg ?_
  refine Go.Sl.L.pu rfl rfl trivial (pu_move rfl) ?_
  refine Go.Sl.L.ac rfl rfl trivial (as_call (greatRecords_spec (Srd.ro hr) hl 12) (by repeat constructor) (by repeat constructor)) ?_
  rintro _ _ ⟨_, ⟨⟨g, rfl, hg⟩, rfl⟩, rfl⟩
  refine Go.Sl.L.puB rfl rfl trivial (pu_move rfl) (fun hg2 => ?_) (fun hg2 => ?_)
  · skip
    skip
    refine Go.Sl.L.off rfl rfl rfl rfl rfl rfl ?_
    refine Go.Sl.L.off rfl rfl rfl rfl rfl rfl ?_
    refine Go.Sl.L.off rfl rfl rfl rfl rfl rfl ?_
    refine Go.Sl.L.pu rfl rfl trivial (by first | exact pu_pick_t rfl rfl | exact pu_pick_f rfl rfl) ?_
    refine Go.Sl.L.nil ?_
    refine Gs.then_n ?_
    refine Gs.cond_t rfl ?_
    refine Gs.seq ?_
    refine Gs.reg ?_
    refine Go.Sl.L.ac rfl rfl trivial (as_call (awake_spec T) (by repeat constructor) (by repeat constructor)) ?_
    rintro _ _ ⟨_, ⟨rfl, rfl⟩, rfl⟩
    refine Go.Sl.L.pu rfl rfl trivial (pu_assign rfl) ?_
    refine Go.Sl.L.nil ?_
    refine Gs.then_n ?_
    refine Gs.ret ?_
    refine Gs.then_r ?_
    exact Gs.fin1 Tryd.results5 rfl _ (⟨rfl, rfl⟩) (by repeat constructor)
  · skip
    refine Go.Sl.L.pu rfl rfl ⟨_, rfl, rfl⟩ (pu_move rfl) ?_
    refine Go.Sl.L.pu rfl rfl ⟨_, rfl, rfl⟩ (pu_len Tryd.underlying30 rfl) ?_
    refine Go.Sl.L.pu rfl rfl ⟨_, rfl, rfl⟩ (pu_gt rfl rfl) ?_
    refine Go.Sl.L.pu rfl rfl trivial (by first | exact pu_pick_t rfl rfl | exact pu_pick_f rfl rfl) ?_
    refine Go.Sl.L.nil ?_
    refine Gs.then_n ?_
    refine Gs.cond rfl (fun hc0 => ?_) (fun hc0 => ?_)
    · skip
      refine Gs.seq ?_
      refine Gs.reg ?_
      refine Go.Sl.L.ac rfl rfl trivial (as_call (awake_spec T) (by repeat constructor) (by repeat constructor)) ?_
      rintro _ _ ⟨_, ⟨rfl, rfl⟩, rfl⟩
      refine Go.Sl.L.pu rfl rfl trivial (pu_assign rfl) ?_
      refine Go.Sl.L.nil ?_
      refine Gs.then_n ?_
      refine Gs.ret ?_
      refine Gs.then_r ?_
      exact Gs.fin1 Tryd.results5 rfl _ (⟨rfl, rfl⟩) (by repeat constructor)
    · skip
      have hlr : rs.length ≤ 12 := by have := hg hg2; omega
      refine Gs.skip ?_
      refine Gs.then_n ?_
      refine Gs.seq ?_
      refine Gs.reg ?_
      refine Go.Sl.L.ac rfl rfl trivial (as_call (new_ok 12 (by decide) (by decide)) (by repeat constructor) (by repeat constructor)) ?_
      rintro _ _ ⟨_, ⟨b, m, rfl, rfl⟩, rfl⟩
      refine Go.Sl.L.pu rfl rfl trivial (pu_assign rfl) ?_
      refine Go.Sl.L.nil ?_
      refine Gs.then_n ?_
      refine Gs.seq ?_
      refine Gs.seq ?_
      refine Gs.reg ?_
      refine Go.Sl.L.pu rfl rfl trivial (pu_move rfl) ?_
      refine Go.Sl.L.pu rfl rfl trivial (pu_eqN Tryd.underlying33 rfl rfl) ?_
      refine Go.Sl.L.nil ?_
      refine Gs.then_n ?_
      refine Gs.cond_f rfl ?_
      refine Gs.skip ?_
      refine Gs.then_n ?_
      refine Gs.seq ?_
      refine Gs.seq ?_
      refine Gs.reg ?_
      refine Go.Sl.L.pu rfl rfl trivial (pu_assign rfl) ?_
      refine Go.Sl.L.nil ?_
      refine Gs.then_n ?_
      refine Gs.block ?_
      refine Gs.loop1 (fun i : Nat => i ≤ rs.length) (fun i => [(0, .slice ar rs.length cr), (1, .slice aw ws.length cw), (5, ptr b), (6, int i)]) (fun i => [ro h0, cl b 61 (heldC 12 m), mp keyV recV m (ents (puts 12 (rs.take i)))] ++ R) (fun i => rs.length - i) 0 (Nat.zero_le _) (by repeat constructor) (by repeat constructor) (fun i hi => ?_)
      refine Gs.seq ?_
      refine Gs.seq ?_
      refine Gs.reg ?_
      refine Go.Sl.L.pu rfl rfl trivial (pu_move rfl) ?_
      refine Go.Sl.L.pu rfl rfl trivial (pu_move rfl) ?_
      refine Go.Sl.L.pu rfl rfl trivial (pu_len Tryd.underlying36 rfl) ?_
      refine Go.Sl.L.pu rfl rfl trivial (pu_lt rfl rfl) ?_
      refine Go.Sl.L.nil ?_
      refine Gs.then_n ?_
      refine Gs.cond rfl (fun hc2 => ?_) (fun hc2 => ?_)
      · skip
        have hlt : i < rs.length := by have := of_decide_eq_true hc2; omega
        obtain ⟨x, hx⟩ : ∃ x, rs[i]? = some x := ⟨rs[i], by simp [hlt]⟩
        obtain rfl := hra (by rintro rfl; simp at hlt)
        have hput : putL 12 (puts 12 (rs.take i)) x = puts 12 (rs.take (i + 1)) := by rw [List.take_add_one, hx]; exact (puts_snoc ..).symm
        refine Gs.skip ?_
        refine Gs.then_n ?_
        refine Gs.seq ?_
        refine Gs.block ?_
        refine Gs.reg ?_
        refine Go.Sl.L.pu rfl rfl trivial (pu_move rfl) ?_
        refine Go.Sl.L.pu rfl rfl trivial (pu_move rfl) ?_
        refine Go.Sl.L.pu rfl rfl trivial (pu_move rfl) ?_
        refine Go.Sl.L.pu rfl rfl trivial (pu_ia se_36 rfl rfl (by omega) (by omega)) ?_
        refine Go.Sl.L.rd rfl rfl trivial (rd_lda ag_29 rfl (Rdc.el0 (SlH.ro (by repeat constructor) hr) hx rfl rfl) rfl) ?_
        refine Go.Sl.L.ac rfl rfl trivial (as_call (put_spec T b m 12 (puts 12 (rs.take i)) x) (by repeat constructor) (by repeat constructor)) ?_
        rintro _ _ ⟨_, ⟨rfl, rfl⟩, rfl⟩
        rw [hput]
        refine Go.Sl.L.nil ?_
        refine Gs.blk_n ?_
        refine Gs.then_n ?_
        refine Gs.reg ?_
        refine Go.Sl.L.pu rfl rfl trivial (pu_move rfl) ?_
        refine Go.Sl.L.pu rfl rfl trivial (by first | exact pu_addI rfl rfl rfl (by omega) (by omega) | exact pu_add rfl rfl) ?_
        refine Go.Sl.L.pu rfl rfl trivial (pu_assign rfl) ?_
        refine Go.Sl.L.nil ?_
        refine Gs.then_n ?_
        exact Gs.again1 (i + 1) (by omega) (by omega) (by repeat constructor) (by repeat constructor)
      · skip
        have hge : i = rs.length := by have := of_decide_eq_false hc2; omega
        subst hge
        rw [List.take_length]
        obtain ⟨hmay, hlen⟩ := puts_may (most := 12) (by decide) rs
        refine Gs.mpNodup (by repeat constructor) fun hnd => ?_
        rw [mkeys_ents] at hnd
        generalize puts 12 rs = L at hmay hlen hnd ⊢
        have hdl := dropL_length ws L
        have hkd := keys_drop (ws := ws) hnd
        have hkl : (sortK (L.map Rec.key)).length = L.length := by rw [sortK_length, List.length_map]
        have hnl : (sortK ((dropL ws L).map Rec.key)).length = (dropL ws L).length := by rw [sortK_length, List.length_map]
        refine Gs.exit ?_
        refine Gs.then_x ?_
        refine Gs.then_x ?_
        refine Gs.blk_hit ?_
        refine Gs.then_n ?_
        refine Gs.seq ?_
        refine Gs.reg ?_
        refine Go.Sl.L.pu rfl rfl trivial (pu_move rfl) ?_
        refine Go.Sl.L.ac rfl rfl trivial (as_call (keys_spec b m 12 L (by omega)) (by repeat constructor) (by repeat constructor)) ?_
        rintro _ _ ⟨_, ⟨ka, kc, rfl, rfl⟩, rfl⟩
        refine Go.Sl.L.pu rfl rfl trivial (pu_assign rfl) ?_
        refine Go.Sl.L.nil ?_
        refine Gs.then_n ?_
        refine Gs.seq ?_
        refine Gs.reg ?_
        refine Go.Sl.L.pu rfl rfl trivial (pu_move rfl) ?_
        refine Go.Sl.L.pu rfl rfl trivial (pu_move rfl) ?_
        refine Go.Sl.L.ac rfl rfl trivial (as_call (drop_spec b m 12 L (by omega) hmay.pos (Srd.ro hw)) (by repeat constructor) (by repeat constructor)) ?_
        rintro _ _ ⟨_, ⟨rfl, rfl⟩, rfl⟩
        refine Go.Sl.L.pu rfl rfl trivial (pu_assign rfl) ?_
        refine Go.Sl.L.nil ?_
        refine Gs.then_n ?_
        refine Gs.seq ?_
        refine Gs.reg ?_
        refine Go.Sl.L.pu rfl rfl trivial (pu_move rfl) ?_
        refine Go.Sl.L.ac rfl rfl trivial (as_call (keys_spec b m 12 (dropL ws L) (by omega)) (by repeat constructor) (by repeat constructor)) ?_
        rintro _ _ ⟨_, ⟨na, nc, rfl, rfl⟩, rfl⟩
        refine Go.Sl.L.pu rfl rfl trivial (pu_assign rfl) ?_
        refine Go.Sl.L.nil ?_
        have hpos : ∀ k ∈ sortK (L.map Rec.key), 0 ≤ k.o := fun k hk => by
          rw [sortK_mem] at hk
          obtain ⟨r, hr, rfl⟩ := List.mem_map.1 hk
          exact hmay.pos r hr
        generalize hnk : sortK ((dropL ws L).map Rec.key) = nk at hkd hnl ⊢
        generalize sortK (L.map Rec.key) = ks at hkd hkl hpos ⊢
        refine Gs.slAddr (SlH.own (by repeat constructor) : SlH _ _ 2 keyC ka ks) fun kb ko hka => ?_
        refine Gs.slAddr (SlH.own (by repeat constructor) : SlH _ _ 2 keyC na nk) fun nb no hna => ?_
        refine Gs.then_n ?_
        refine Gs.seq ?_
        refine Gs.reg ?_
        refine Go.Sl.L.pu rfl rfl trivial (pu_assign rfl) ?_
        refine Go.Sl.L.nil ?_
        refine Gs.then_n ?_
        refine Gs.seq ?_
        refine Gs.seq ?_
        refine Gs.reg ?_
        refine Go.Sl.L.pu rfl rfl trivial (pu_assign rfl) ?_
        refine Go.Sl.L.nil ?_
        refine Gs.then_n ?_
        refine Gs.block ?_
        refine Gs.loop1 (fun j : Nat => j ≤ ks.length) (fun j => [(1, .slice aw ws.length cw), (5, ptr b), (7, .slice ka ks.length kc), (8, int (L.length - (dropL ws L).length)), (9, .slice na nk.length nc), (10, int ((ks.take j).filter fun k => !dropB ws k).length), (11, int j)]) (fun j => [ro h0, cl b 61 (heldC 12 m), mp keyV recV m (ents (dropL ws L)), sl 25 2 keyC ka kc ks, sl 25 2 keyC na nc nk] ++ R) (fun j => ks.length - j) 0 (Nat.zero_le _) (by repeat constructor) (by repeat constructor) (fun j hj => ?_)
        refine Gs.seq ?_
        refine Gs.seq ?_
        refine Gs.reg ?_
        refine Go.Sl.L.pu rfl rfl trivial (pu_move rfl) ?_
        refine Go.Sl.L.pu rfl rfl trivial (pu_move rfl) ?_
        refine Go.Sl.L.pu rfl rfl trivial (pu_len Tryd.underlying48 rfl) ?_
        refine Go.Sl.L.pu rfl rfl trivial (pu_lt rfl rfl) ?_
        refine Go.Sl.L.nil ?_
        refine Gs.then_n ?_
        refine Gs.cond rfl (fun hc3 => ?_) (fun hc3 => ?_)
        · skip
          have hlt : j < ks.length := by have := of_decide_eq_true hc3; omega
          obtain ⟨k, hk⟩ : ∃ k, ks[j]? = some k := ⟨ks[j], by simp [hlt]⟩
          obtain rfl := hka (by rintro rfl; simp at hlt)
          have h0k := hpos k (List.mem_of_getElem? hk)
          have hst := filter_step (p := fun k => !dropB ws k) hk
          have hat := filter_at (p := fun k => !dropB ws k) hk
          rw [← hkd] at hat
          refine Gs.skip ?_
          refine Gs.then_n ?_
          refine Gs.seq ?_
          refine Gs.block ?_
          refine Gs.seq ?_
          refine Gs.reg ?_
          refine Go.Sl.L.pu rfl rfl trivial (pu_move rfl) ?_
          refine Go.Sl.L.pu rfl rfl trivial (pu_move rfl) ?_
          refine Go.Sl.L.pu rfl rfl trivial (pu_ia se_48 rfl rfl (by omega) (by omega)) ?_
          refine Go.Sl.L.pu rfl rfl trivial (pu_fa fa_25_0 rfl) ?_
          refine Go.Sl.L.rd rfl rfl trivial (rd_ld na_3 rfl (Rdc.elp 1 (SlH.own (by repeat constructor)) hk rfl rfl)) ?_
          refine Go.Sl.L.pu rfl rfl trivial (pu_assign rfl) ?_
          refine Go.Sl.L.nil ?_
          refine Gs.then_n ?_
          refine Gs.seq ?_
          refine Gs.seq ?_
          refine Gs.regD mixed (by kernel_rfl) ?_
          refine Rg.pu 0 rfl rfl (by kernel_rfl) trivial (pu_move rfl) ?_
          refine Rg.pu 1 rfl rfl (by kernel_rfl) trivial (pu_move rfl) ?_
          refine Rg.pu 2 rfl rfl (by kernel_rfl) trivial (pu_len Tryd.underlying30 rfl) ?_
          refine Rg.pu 3 rfl rfl (by kernel_rfl) trivial (pu_lt rfl rfl) ?_
          refine Rg.puB 4 rfl rfl (by kernel_rfl) trivial (pu_move rfl) (fun hg4 => ?_) (fun hg4 => ?_)
          · skip
            have hg4' := of_decide_eq_true hg4
            obtain ⟨x, hx⟩ : ∃ x, ws[k.o.toNat]? = some x := ⟨ws[k.o.toNat]'(by omega), by simp⟩
            obtain rfl := hwa (by rintro rfl; simp at hg4'; omega)
            refine Rg.pu 5 rfl rfl (by kernel_rfl) ⟨_, rfl, rfl⟩ (pu_move rfl) ?_
            refine Rg.pu 6 rfl rfl (by kernel_rfl) ⟨_, rfl, rfl⟩ (pu_move rfl) ?_
            refine Rg.pu 7 rfl rfl (by kernel_rfl) ⟨_, rfl, rfl⟩ (pu_ia se_48 rfl rfl (by omega) (by omega)) ?_
            refine Rg.pu 8 rfl rfl (by kernel_rfl) ⟨_, rfl, rfl⟩ (pu_fa fa_25_1 rfl) ?_
            refine Rg.rd 9 rfl rfl (by kernel_rfl) ⟨_, rfl, rfl⟩ (rd_ld na_3 rfl (Rdc.elp 1 (SlH.own (by repeat constructor)) hk rfl rfl)) ?_
            refine Rg.pu 10 rfl rfl (by kernel_rfl) ⟨_, rfl, rfl⟩ (pu_move rfl) ?_
            refine Rg.pu 11 rfl rfl (by kernel_rfl) ⟨_, rfl, rfl⟩ (pu_move rfl) ?_
            refine Rg.pu 12 rfl rfl (by kernel_rfl) ⟨_, rfl, rfl⟩ (pu_ia se_30 rfl rfl (by omega) (by omega)) ?_
            refine Rg.rd 13 rfl rfl (by kernel_rfl) ⟨_, rfl, rfl⟩ (rd_ld na_3 rfl (Rdc.el0 (SlH.ro (by repeat constructor) hw) hx rfl rfl)) ?_
            refine Rg.pu 14 rfl rfl (by kernel_rfl) ⟨_, rfl, rfl⟩ (pu_le rfl rfl) ?_
            refine Rg.pu 15 rfl rfl (by kernel_rfl) trivial (by first | exact pu_pick_t rfl rfl | exact pu_pick_f rfl rfl) ?_
            refine Rg.end (by kernel_rfl) ?_
            refine Gs.then_n ?_
            refine Gs.cond rfl (fun hc4 => ?_) (fun hc4 => ?_)
            · skip
              have hd : dropB ws k = true := by simpa [dropB, hx] using hc4
              rw [hd] at hst
              have hst' : ((ks.take (j + 1)).filter fun k => !dropB ws k).length = ((ks.take j).filter fun k => !dropB ws k).length := by simpa using hst
              rw [← hst']
              refine Gs.exit ?_
              refine Gs.then_x ?_
              refine Gs.blk_hit ?_
              refine Gs.then_n ?_
              refine Gs.reg ?_
              refine Go.Sl.L.pu rfl rfl trivial (pu_move rfl) ?_
              refine Go.Sl.L.pu rfl rfl trivial (by first | exact pu_addI rfl rfl rfl (by omega) (by omega) | exact pu_add rfl rfl) ?_
              refine Go.Sl.L.pu rfl rfl trivial (pu_assign rfl) ?_
              refine Go.Sl.L.nil ?_
              refine Gs.then_n ?_
              exact Gs.again1 (j + 1) (by omega) (by omega) (by repeat constructor) (by repeat constructor)
            · skip
              have hd : dropB ws k = false := by simpa [dropB, hx] using hc4
              refine Gs.skip ?_
              refine Gs.then_n ?_
              refine Gs.seq ?_
              refine Gs.seq ?_
              have hat' := hat (by rw [hd]; rfl)
              have hst' : ((ks.take (j + 1)).filter fun k => !dropB ws k).length = ((ks.take j).filter fun k => !dropB ws k).length + 1 := by rw [hst, hd]; rfl
              have hjl : ((ks.take j).filter fun k => !dropB ws k).length < nk.length := (List.getElem?_eq_some_iff.1 hat').1
              obtain rfl := hna (by rintro rfl; simp at hjl)
              refine Gs.regD mixed (by kernel_rfl) ?_
              refine Rg.pu 0 rfl rfl (by kernel_rfl) trivial (pu_move rfl) ?_
              refine Rg.pu 1 rfl rfl (by kernel_rfl) trivial (pu_move rfl) ?_
              refine Rg.pu 2 rfl rfl (by kernel_rfl) trivial (pu_len Tryd.underlying48 rfl) ?_
              refine Rg.pu 3 rfl rfl (by kernel_rfl) trivial (pu_ge rfl rfl) ?_
              refine Rg.puBf 4 rfl rfl (by kernel_rfl) trivial (pu_move rfl) (decide_eq_false (by omega)) ?_
              refine Rg.pu 5 rfl rfl (by kernel_rfl) ⟨_, rfl, rfl⟩ (pu_move rfl) ?_
              refine Rg.pu 6 rfl rfl (by kernel_rfl) ⟨_, rfl, rfl⟩ (pu_move rfl) ?_
              refine Rg.pu 7 rfl rfl (by kernel_rfl) ⟨_, rfl, rfl⟩ (pu_ia se_48 rfl rfl (by omega) (by omega)) ?_
              refine Rg.rd 8 rfl rfl (by kernel_rfl) ⟨_, rfl, rfl⟩ (rd_lda ag_25 rfl (Rdc.el0 (SlH.own (by repeat constructor)) hat' rfl rfl) rfl) ?_
              refine Rg.pu 9 rfl rfl (by kernel_rfl) ⟨_, rfl, rfl⟩ (pu_move rfl) ?_
              refine Rg.pu 10 rfl rfl (by kernel_rfl) ⟨_, rfl, rfl⟩ (pu_move rfl) ?_
              refine Rg.pu 11 rfl rfl (by kernel_rfl) ⟨_, rfl, rfl⟩ (pu_ia se_48 rfl rfl (by omega) (by omega)) ?_
              refine Rg.rd 12 rfl rfl (by kernel_rfl) ⟨_, rfl, rfl⟩ (rd_lda ag_25 rfl (Rdc.el0 (SlH.own (by repeat constructor)) hk rfl rfl) rfl) ?_
              refine Rg.pu 13 rfl rfl (by kernel_rfl) ⟨_, rfl, rfl⟩ (pu_neT (a := k) (b := k) cmp_25 (by decide) Tryd.eqGuardType25 rfl rfl) ?_
              refine Rg.pu 14 rfl rfl (by kernel_rfl) trivial (by first | exact pu_pick_t rfl rfl | exact pu_pick_f rfl rfl) ?_
              refine Rg.end (by kernel_rfl) ?_
              refine Gs.then_n ?_
              refine Gs.cond_ff rfl (by simp) ?_
              refine Gs.skip ?_
              refine Gs.then_n ?_
              refine Gs.reg ?_
              refine Go.Sl.L.pu rfl rfl trivial (pu_move rfl) ?_
              refine Go.Sl.L.pu rfl rfl trivial (by first | exact pu_addI rfl rfl rfl (by omega) (by omega) | exact pu_add rfl rfl) ?_
              refine Go.Sl.L.pu rfl rfl trivial (pu_assign rfl) ?_
              refine Go.Sl.L.nil ?_
              rw [show ((((ks.take j).filter fun k => !dropB ws k).length : Int) + 1) = (((ks.take (j + 1)).filter fun k => !dropB ws k).length : Nat) by omega]
              refine Gs.blk_n ?_
              refine Gs.then_n ?_
              refine Gs.reg ?_
              refine Go.Sl.L.pu rfl rfl trivial (pu_move rfl) ?_
              refine Go.Sl.L.pu rfl rfl trivial (by first | exact pu_addI rfl rfl rfl (by omega) (by omega) | exact pu_add rfl rfl) ?_
              refine Go.Sl.L.pu rfl rfl trivial (pu_assign rfl) ?_
              refine Go.Sl.L.nil ?_
              refine Gs.then_n ?_
              exact Gs.again1 (j + 1) (by omega) (by omega) (by repeat constructor) (by repeat constructor)
          · skip
            have hg4' := of_decide_eq_false hg4
            have hd : dropB ws k = false := by unfold dropB; rw [List.getElem?_eq_none (by omega)]
            refine Rg.off 5 rfl rfl (by kernel_rfl) rfl rfl rfl rfl ?_
            refine Rg.off 6 rfl rfl (by kernel_rfl) rfl rfl rfl rfl ?_
            refine Rg.off 7 rfl rfl (by kernel_rfl) rfl rfl rfl rfl ?_
            refine Rg.off 8 rfl rfl (by kernel_rfl) rfl rfl rfl rfl ?_
            refine Rg.off 9 rfl rfl (by kernel_rfl) rfl rfl rfl rfl ?_
            refine Rg.off 10 rfl rfl (by kernel_rfl) rfl rfl rfl rfl ?_
            refine Rg.off 11 rfl rfl (by kernel_rfl) rfl rfl rfl rfl ?_
            refine Rg.off 12 rfl rfl (by kernel_rfl) rfl rfl rfl rfl ?_
            refine Rg.off 13 rfl rfl (by kernel_rfl) rfl rfl rfl rfl ?_
            refine Rg.off 14 rfl rfl (by kernel_rfl) rfl rfl rfl rfl ?_
            refine Rg.pu 15 rfl rfl (by kernel_rfl) trivial (by first | exact pu_pick_t rfl rfl | exact pu_pick_f rfl rfl) ?_
            refine Rg.end (by kernel_rfl) ?_
            refine Gs.then_n ?_
            refine Gs.cond_f rfl ?_
            refine Gs.skip ?_
            refine Gs.then_n ?_
            refine Gs.seq ?_
            refine Gs.seq ?_
            have hat' := hat (by rw [hd]; rfl)
            have hst' : ((ks.take (j + 1)).filter fun k => !dropB ws k).length = ((ks.take j).filter fun k => !dropB ws k).length + 1 := by rw [hst, hd]; rfl
            have hjl : ((ks.take j).filter fun k => !dropB ws k).length < nk.length := (List.getElem?_eq_some_iff.1 hat').1
            obtain rfl := hna (by rintro rfl; simp at hjl)
            refine Gs.regD mixed (by kernel_rfl) ?_
            refine Rg.pu 0 rfl rfl (by kernel_rfl) trivial (pu_move rfl) ?_
            refine Rg.pu 1 rfl rfl (by kernel_rfl) trivial (pu_move rfl) ?_
            refine Rg.pu 2 rfl rfl (by kernel_rfl) trivial (pu_len Tryd.underlying48 rfl) ?_
            refine Rg.pu 3 rfl rfl (by kernel_rfl) trivial (pu_ge rfl rfl) ?_
            refine Rg.puBf 4 rfl rfl (by kernel_rfl) trivial (pu_move rfl) (decide_eq_false (by omega)) ?_
            refine Rg.pu 5 rfl rfl (by kernel_rfl) ⟨_, rfl, rfl⟩ (pu_move rfl) ?_
            refine Rg.pu 6 rfl rfl (by kernel_rfl) ⟨_, rfl, rfl⟩ (pu_move rfl) ?_
            refine Rg.pu 7 rfl rfl (by kernel_rfl) ⟨_, rfl, rfl⟩ (pu_ia se_48 rfl rfl (by omega) (by omega)) ?_
            refine Rg.rd 8 rfl rfl (by kernel_rfl) ⟨_, rfl, rfl⟩ (rd_lda ag_25 rfl (Rdc.el0 (SlH.own (by repeat constructor)) hat' rfl rfl) rfl) ?_
            refine Rg.pu 9 rfl rfl (by kernel_rfl) ⟨_, rfl, rfl⟩ (pu_move rfl) ?_
            refine Rg.pu 10 rfl rfl (by kernel_rfl) ⟨_, rfl, rfl⟩ (pu_move rfl) ?_
            refine Rg.pu 11 rfl rfl (by kernel_rfl) ⟨_, rfl, rfl⟩ (pu_ia se_48 rfl rfl (by omega) (by omega)) ?_
            refine Rg.rd 12 rfl rfl (by kernel_rfl) ⟨_, rfl, rfl⟩ (rd_lda ag_25 rfl (Rdc.el0 (SlH.own (by repeat constructor)) hk rfl rfl) rfl) ?_
            refine Rg.pu 13 rfl rfl (by kernel_rfl) ⟨_, rfl, rfl⟩ (pu_neT (a := k) (b := k) cmp_25 (by decide) Tryd.eqGuardType25 rfl rfl) ?_
            refine Rg.pu 14 rfl rfl (by kernel_rfl) trivial (by first | exact pu_pick_t rfl rfl | exact pu_pick_f rfl rfl) ?_
            refine Rg.end (by kernel_rfl) ?_
            refine Gs.then_n ?_
            refine Gs.cond_ff rfl (by simp) ?_
            refine Gs.skip ?_
            refine Gs.then_n ?_
            refine Gs.reg ?_
            refine Go.Sl.L.pu rfl rfl trivial (pu_move rfl) ?_
            refine Go.Sl.L.pu rfl rfl trivial (by first | exact pu_addI rfl rfl rfl (by omega) (by omega) | exact pu_add rfl rfl) ?_
            refine Go.Sl.L.pu rfl rfl trivial (pu_assign rfl) ?_
            refine Go.Sl.L.nil ?_
            rw [show ((((ks.take j).filter fun k => !dropB ws k).length : Int) + 1) = (((ks.take (j + 1)).filter fun k => !dropB ws k).length : Nat) by omega]
            refine Gs.blk_n ?_
            refine Gs.then_n ?_
            refine Gs.reg ?_
            refine Go.Sl.L.pu rfl rfl trivial (pu_move rfl) ?_
            refine Go.Sl.L.pu rfl rfl trivial (by first | exact pu_addI rfl rfl rfl (by omega) (by omega) | exact pu_add rfl rfl) ?_
            refine Go.Sl.L.pu rfl rfl trivial (pu_assign rfl) ?_
            refine Go.Sl.L.nil ?_
            refine Gs.then_n ?_
            exact Gs.again1 (j + 1) (by omega) (by omega) (by repeat constructor) (by repeat constructor)
        · skip
          have hge : j = ks.length := by have := of_decide_eq_false hc3; omega
          subst hge
          rw [List.take_length, ← hkd]
          refine Gs.exit ?_
          refine Gs.then_x ?_
          refine Gs.then_x ?_
          refine Gs.blk_hit ?_
          refine Gs.then_n ?_
          refine Gs.seq ?_
          refine Gs.reg ?_
          refine Go.Sl.L.pu rfl rfl trivial (pu_move rfl) ?_
          refine Go.Sl.L.pu rfl rfl trivial (pu_move rfl) ?_
          refine Go.Sl.L.pu rfl rfl trivial (pu_len Tryd.underlying48 rfl) ?_
          refine Go.Sl.L.pu rfl rfl trivial (pu_eq rfl rfl) ?_
          refine Go.Sl.L.puBt rfl rfl trivial (pu_move rfl) (decide_eq_true rfl) ?_
          refine Go.Sl.L.pu rfl rfl ⟨_, rfl, rfl⟩ (pu_move rfl) ?_
          refine Go.Sl.L.pu rfl rfl ⟨_, rfl, rfl⟩ (pu_move rfl) ?_
          refine Go.Sl.L.pu rfl rfl ⟨_, rfl, rfl⟩ (pu_len Tryd.underlying48 rfl) ?_
          refine Go.Sl.L.pu rfl rfl ⟨_, rfl, rfl⟩ (pu_move rfl) ?_
          refine Go.Sl.L.pu rfl rfl ⟨_, rfl, rfl⟩ (pu_len Tryd.underlying48 rfl) ?_
          refine Go.Sl.L.pu rfl rfl ⟨_, rfl, rfl⟩ (by first | exact pu_subI rfl rfl rfl (by omega) (by omega) | exact pu_sub rfl rfl) ?_
          refine Go.Sl.L.pu rfl rfl ⟨_, rfl, rfl⟩ (pu_eq rfl rfl) ?_
          refine Go.Sl.L.pu rfl rfl trivial (by first | exact pu_pick_t rfl rfl | exact pu_pick_f rfl rfl) ?_
          refine Go.Sl.L.puBt rfl rfl trivial (pu_move rfl) (decide_eq_true (by omega)) ?_
          refine Go.Sl.L.pu rfl rfl ⟨_, rfl, rfl⟩ (pu_move rfl) ?_
          refine Go.Sl.L.ac rfl rfl ⟨_, rfl, rfl⟩ (as_call (len_spec b m 12 (dropL ws L)) (by repeat constructor) (by repeat constructor)) ?_
          rintro _ _ ⟨_, ⟨rfl, rfl⟩, rfl⟩
          refine Go.Sl.L.pu rfl rfl ⟨_, rfl, rfl⟩ (pu_move rfl) ?_
          refine Go.Sl.L.pu rfl rfl ⟨_, rfl, rfl⟩ (pu_len Tryd.underlying48 rfl) ?_
          refine Go.Sl.L.pu rfl rfl ⟨_, rfl, rfl⟩ (pu_eq rfl rfl) ?_
          refine Go.Sl.L.pu rfl rfl trivial (by first | exact pu_pick_t rfl rfl | exact pu_pick_f rfl rfl) ?_
          refine Go.Sl.L.puBt rfl rfl trivial (pu_move rfl) (decide_eq_true (by omega)) ?_
          refine Go.Sl.L.pu rfl rfl ⟨_, rfl, rfl⟩ (pu_move rfl) ?_
          refine Go.Sl.L.pu rfl rfl ⟨_, rfl, rfl⟩ (pu_move rfl) ?_
          refine Go.Sl.L.ac rfl rfl ⟨_, rfl, rfl⟩ (as_call (drop_spec b m 12 (dropL ws L) (by omega) (hmay.drop ws).pos (Srd.ro hw)) (by repeat constructor) (by repeat constructor)) ?_
          rintro _ _ ⟨_, ⟨rfl, rfl⟩, rfl⟩
          refine Go.Sl.L.pu rfl rfl ⟨_, rfl, rfl⟩ (pu_eq rfl rfl) ?_
          refine Go.Sl.L.pu rfl rfl trivial (by first | exact pu_pick_t rfl rfl | exact pu_pick_f rfl rfl) ?_
          refine Go.Sl.L.puBt rfl rfl trivial (pu_move rfl) (decide_eq_true (by rw [dropL_idem]; omega)) ?_
          refine Go.Sl.L.ac rfl rfl ⟨_, rfl, rfl⟩ (as_call (awake_spec T) (by repeat constructor) (by repeat constructor)) ?_
          rintro _ _ ⟨_, ⟨rfl, rfl⟩, rfl⟩
          refine Go.Sl.L.pu rfl rfl trivial (by first | exact pu_pick_t rfl rfl | exact pu_pick_f rfl rfl) ?_
          refine Go.Sl.L.pu rfl rfl trivial (pu_assign rfl) ?_
          refine Go.Sl.L.nil ?_
          refine Gs.then_n ?_
          refine Gs.ret ?_
          exact Gs.fin1 Tryd.results5 rfl _ (⟨rfl, rfl⟩) (by repeat constructor)
end Go.Proofs.YthikmfpfbfjbiaaDoor
