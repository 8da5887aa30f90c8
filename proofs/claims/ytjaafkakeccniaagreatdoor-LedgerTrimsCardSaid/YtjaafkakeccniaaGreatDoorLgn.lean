/- Walk: ledger.Open. -/
import Derived.Test.YtjaafkakeccniaaGreatDoorLgo
namespace Go.Proofs.YtjaafkakeccniaaGreatDoor
open Go Go.Sl Go.Gv Go.Dv Go.Bst
set_option maxRecDepth 100000
theorem segLay_two {A Tx : HProp} {e : EntV} (hE : EVd A e) (hT : RMs Tx) {n0 : Int} (hm : mayE e.p n0 = true) :
    Ct Tryz.prog 33 [entV e] [A, Tx] (fun v hs => ∃ a c, v = .tuple #[.slice a (layE e.p).length c, int 0] ∧ hs = [A, Tx, sl 5 1 byteC a c (layE e.p)]) :=
  ((segLay_spec (U := two A Tx) hE.two1 (hT.inn Inn.two2) hm).two (fun v hs ⟨a, c, _, h⟩ => ⟨_, h⟩)).mono fun v hs ⟨r, ⟨a, c, h1, h2⟩, h3⟩ => ⟨a, c, h1, by cases h2; exact h3⟩
theorem openL_len (n : Int) : ∀ (ks : List Nat) (o : OOut), (openL n ks o).D.length ≤ o.D.length
  | [], _ => Nat.le_refl _
  | k :: ks, o => by
    have h := openL_len n ks ⟨(readF n o.D (nameK k)).D, ⟨max o.L.made k, o.L.ps ++ (readF n o.D (nameK k)).ps⟩, o.out ++ (readF n o.D (nameK k)).es⟩
    have h2 : (readF n o.D (nameK k)).D.length ≤ o.D.length := by
      unfold readF
      dsimp only
      split
      · exact List.length_filter_le ..
      · dsimp only
        split
        · unfold cutL; split
          · simp [upd]
          · exact Nat.le_refl _
        · exact Nat.le_refl _
    rw [openL]; exact Nat.le_trans h h2
abbrev zeroV (n : Int) (a b : Nat) : EntV := ⟨1, ⟨some ⟨a, 0, none⟩, zeros n, n.toNat⟩, ⟨some ⟨b, 0, none⟩, zeros n, n.toNat⟩, Rec.zero⟩
theorem open_spec {d : Nat} {n most : Int} {D : List Fl} {Tx : HProp} {ks : List Nat} (hT : RMs Tx) (h1 : 1 ≤ n) (h8 : n ≤ 8) (hD : D.length ≤ 900) (hks : sortB (names D) = ks.map nameK) (hk : ∀ k ∈ ks, k < 98) :
    Ct Tryz.prog 12 [ptr d, int n] [drv d most D, Tx]
      (fun v hs => ((openA most n ks D).code = 0 ∧ ∃ b a c es, v = .tuple #[ptr b, .slice a es.length c, int 0] ∧ plainV es = (openA most n ks D).out ∧ hs = [lgr b d n (openA most n ks D).L, drv d most (openA most n ks D).D, Tx, elO a c es]) ∨
        ((openA most n ks D).code ≠ 0 ∧ v = .tuple #[.pointer none, .slice none 0 0, int (openA most n ks D).code] ∧ hs = [drv d most (openA most n ks D).D, Tx])) := by
  have hkl : ks.length ≤ 900 := by
    have := congrArg List.length hks
    simp only [sortB_length, List.length_map, names] at this
    omega
  obtain ⟨o0, ho0⟩ : ∃ o : OOut, o = ⟨D, ⟨0, []⟩, []⟩ := ⟨_, rfl⟩
  have hmade : ∀ i, (openL n (ks.take i) o0).L.made ≤ 97 := fun i => openL_made n _ _ 97 (by rw [ho0]; exact Nat.zero_le _) fun k h => by have := hk k (List.mem_of_mem_take h); omega
  have hpsl : ∀ i, (openL n (ks.take i) o0).L.ps.length ≤ 900 := fun i => by
    have := openL_ps n (ks.take i) o0
    rw [ho0] at this ⊢
    simp only [List.length_nil, List.length_take] at this
    omega
  have hDl : ∀ i, (openL n (ks.take i) o0).D.length ≤ 900 := fun i => Nat.le_trans (openL_len n _ _) (by rw [ho0]; exact hD)
  obtain ⟨A, hA0⟩ : ∃ A, A = openA most n ks D := ⟨_, rfl⟩
  rw [← hA0]
  refine Ct.intro Tryz.func12 rfl (by kernel_rfl) 107 Tryz.ntmps12 (Nat.le_of_ble_eq_true rfl) fun w0 R => ?_
  refine Gs.seq ?_
  refine Gs.reg ?_
  refine Go.Sl.L.pu rfl rfl trivial (pu_assign rfl) ?_
  refine Go.Sl.L.pu rfl rfl trivial (pu_assign rfl) ?_
  refine Go.Sl.L.pu rfl rfl trivial (pu_assign rfl) ?_
  refine Go.Sl.L.nil ?_
  refine Gs.then_n ?_
  refine Gs.seq ?_
  refine Gs.block ?_
  refine Gs.seq ?_
  refine Gs.reg ?_
  refine Go.Sl.L.pu rfl rfl trivial (pu_move rfl) ?_
  refine Go.Sl.L.pu rfl rfl trivial (pu_eqN Tryz.underlying26 rfl rfl) ?_
  refine Go.Sl.L.pu rfl rfl trivial (pu_assign rfl) ?_
  refine Go.Sl.L.nil ?_
  refine Gs.then_n ?_
  refine Gs.cond_f rfl ?_
  refine Gs.seq ?_
  refine Gs.reg ?_
  refine Go.Sl.L.pu rfl rfl trivial (pu_move rfl) ?_
  refine Go.Sl.L.pu rfl rfl trivial (pu_lt rfl rfl) ?_
  refine Go.Sl.L.puBf rfl rfl trivial (pu_move rfl) (decide_eq_false (by omega)) ?_
  refine Go.Sl.L.pu rfl rfl ⟨_, rfl, rfl⟩ (pu_move rfl) ?_
  refine Go.Sl.L.pu rfl rfl ⟨_, rfl, rfl⟩ (pu_gt rfl rfl) ?_
  refine Go.Sl.L.pu rfl rfl trivial (by first | exact pu_pick_t rfl rfl | exact pu_pick_f rfl rfl) ?_
  refine Go.Sl.L.pu rfl rfl trivial (pu_assign rfl) ?_
  refine Go.Sl.L.nil ?_
  refine Gs.then_n ?_
  refine Gs.cond_ff rfl (decide_eq_false (by omega)) ?_
  refine Gs.skip ?_
  refine Gs.blk_n ?_
  refine Gs.then_n ?_
  refine Gs.seq ?_
  refine Gs.reg ?_
  refine Go.Sl.L.pu rfl rfl trivial (pu_move rfl) ?_
  refine Go.Sl.L.pu rfl rfl trivial (pu_move rfl) ?_
  refine Go.Sl.L.pu rfl rfl trivial (pu_build bd_65 (by repeat constructor) rfl) ?_
  refine Go.Sl.L.ac rfl rfl trivial (ac_box rfl rfl) ?_
  rintro _ _ ⟨gb, rfl, rfl⟩
  refine Go.Sl.L.pu rfl rfl trivial (pu_assign rfl) ?_
  refine Go.Sl.L.nil ?_
  refine Gs.slNil 83 3 paC ?_
  refine Gs.bigNil ?_
  refine Gs.lgClose (b := gb) (d := d) (n := n) (made := 0) (ps := []) (P := []) (a := none) (c := 0) (l := 0) (by repeat constructor) rfl rfl ?_
  refine Gs.then_n ?_
  refine Gs.seq ?_
  refine Gs.reg ?_
  refine Go.Sl.L.pu rfl rfl trivial (pu_assign rfl) ?_
  refine Go.Sl.L.nil ?_
  refine Gs.then_n ?_
  refine Gs.seq ?_
  refine Gs.seq ?_
  refine Gs.reg ?_
  refine Go.Sl.L.pu rfl rfl trivial (pu_move rfl) ?_
  refine Go.Sl.L.ac rfl rfl trivial (as_call (names_spec d most D (by omega)) (by repeat constructor) (by repeat constructor)) ?_
  rintro _ _ ⟨_, ⟨na, nc, rfl, rfl⟩, rfl⟩
  rw [hks]
  refine Go.Sl.L.pu rfl rfl trivial (pu_len Tryz.underlying66 rfl) ?_
  refine Go.Sl.L.pu rfl rfl trivial (pu_move rfl) ?_
  refine Go.Sl.L.nil ?_
  refine Gs.elNil ?_
  rw [show D = (openL n (ks.take 0) o0).D by rw [ho0]; rfl, show (⟨0, []⟩ : Lg) = (openL n (ks.take 0) o0).L by rw [ho0]; rfl]
  refine Gs.slAddr (SlH.own (by repeat constructor) : SlH _ _ 1 strC na (ks.map nameK)) fun nb no hna => ?_
  refine Gs.then_n ?_
  refine Gs.block ?_
  refine Gs.loop1 (fun s : Nat × Option Addr × Nat × List EntV => s.1 ≤ ks.length ∧ plainV s.2.2.2 = (openL n (ks.take s.1) o0).out ∧ s.2.2.2.length ≤ s.1 * 1048576) (fun s => [(0, ptr d), (1, int n), (7, ptr gb), (8, .slice s.2.1 s.2.2.2.length s.2.2.1), (35, .slice na (ks.map nameK).length nc), (36, int (ks.map nameK).length), (37, int s.1)]) (fun s => [lgr gb d n (openL n (ks.take s.1) o0).L, drv d most (openL n (ks.take s.1) o0).D, Tx, sl 9 1 strC na nc (ks.map nameK), elO s.2.1 s.2.2.1 s.2.2.2] ++ R) (fun s => ks.length - s.1) (0, none, 0, []) (⟨Nat.zero_le _, by rw [ho0]; rfl, Nat.zero_le _⟩) (by repeat constructor) (by repeat constructor) (fun s hs => ?_)
  obtain ⟨i, ea, ec, es⟩ := s
  obtain ⟨hi, hes, hel⟩ := hs
  dsimp only at hi hes hel ⊢
  have hml : (ks.map nameK).length = ks.length := by simp
  refine Gs.seq ?_
  refine Gs.reg ?_
  refine Go.Sl.L.pu rfl rfl trivial (pu_lt rfl rfl) ?_
  refine Go.Sl.L.nil ?_
  refine Gs.then_n ?_
  refine Gs.seq ?_
  refine Gs.cond rfl (fun hc2 => ?_) (fun hc2 => ?_)
  · skip
    have hlt : i < ks.length := by have := of_decide_eq_true hc2; omega
    obtain ⟨k, hki⟩ : ∃ k, ks[i]? = some k := ⟨ks[i], by simp [hlt]⟩
    have hk98 := hk k (List.mem_of_getElem? hki)
    have hnk : (ks.map nameK)[i]? = some (nameK k) := by simp [hki]
    obtain rfl := hna (by intro e; rw [e] at hnk; simp at hnk)
    obtain ⟨o, ho⟩ : ∃ o, o = openL n (ks.take i) o0 := ⟨_, rfl⟩
    have hst : openL n (ks.take (i + 1)) o0 = ⟨(readF n o.D (nameK k)).D, ⟨max o.L.made k, o.L.ps ++ (readF n o.D (nameK k)).ps⟩, o.out ++ (readF n o.D (nameK k)).es⟩ := by rw [openL_take hki, ← ho]; rfl
    have hpo := hpsl i
    have hmo := hmade i
    rw [← ho] at hes hpo hmo ⊢
    have hbi : i * 1048576 ≤ 900 * 1048576 := Nat.mul_le_mul_right _ (by omega)
    refine Gs.skip ?_
    refine Gs.then_n ?_
    refine Gs.seq ?_
    refine Gs.block ?_
    refine Gs.seq ?_
    refine Gs.reg ?_
    refine Go.Sl.L.pu rfl rfl trivial (pu_ia se_66 rfl rfl (by omega) (by omega)) ?_
    refine Go.Sl.L.rd rfl rfl trivial (rd_ld na_9 rfl (Rdc.el0 (SlH.own (by repeat constructor)) hnk rfl rfl)) ?_
    refine Go.Sl.L.pu rfl rfl trivial (pu_assign rfl) ?_
    refine Go.Sl.L.nil ?_
    refine Gs.then_n ?_
    refine Gs.seq ?_
    refine Gs.seq ?_
    refine Gs.reg ?_
    refine Go.Sl.L.pu rfl rfl trivial (pu_move rfl) ?_
    refine Go.Sl.L.ac rfl rfl trivial (as_call (hasPrefix_spec (nameK k) ⟨#[108, 111, 103, 46]⟩) (by repeat constructor) (by repeat constructor)) ?_
    rintro _ _ ⟨_, ⟨rfl, rfl⟩, rfl⟩
    refine Go.Sl.L.pu rfl rfl trivial (pu_not rfl) ?_
    refine Go.Sl.L.nil ?_
    refine Gs.then_n ?_
    refine Gs.cond_ff rfl (by rw [name_pre]; rfl) ?_
    refine Gs.skip ?_
    refine Gs.then_n ?_
    refine Gs.seq ?_
    refine Gs.reg ?_
    refine Go.Sl.L.pu rfl rfl trivial (pu_move rfl) ?_
    refine Go.Sl.L.pu rfl rfl trivial (pu_sliceLS Tryz.underlying9 rfl rfl (by decide) (by rw [name_size]; decide)) ?_
    refine Go.Sl.L.ac rfl rfl trivial (as_call (atoi_spec ((nameK k).extract 4 13) k (by rw [ByteArray.size_extract, name_size]; decide) (name_atoi (by omega))) (by repeat constructor) (by repeat constructor)) ?_
    rintro _ _ ⟨_, ⟨rfl, rfl⟩, rfl⟩
    refine Go.Sl.L.pu rfl rfl trivial (pu_move rfl) ?_
    refine Go.Sl.L.pu rfl rfl trivial (pu_extract rfl rfl) ?_
    refine Go.Sl.L.pu rfl rfl trivial (pu_extract rfl rfl) ?_
    refine Go.Sl.L.pu rfl rfl trivial (pu_assign rfl) ?_
    refine Go.Sl.L.pu rfl rfl trivial (pu_assign rfl) ?_
    refine Go.Sl.L.nil ?_
    refine Gs.then_n ?_
    refine Gs.seq ?_
    refine Gs.lgOpen (made := o.L.made) (ps := o.L.ps) (b := gb) (d := d) (n := n) (by repeat constructor) fun pa pc P hP => ?_
    refine Gs.reg ?_
    refine Go.Sl.L.pu rfl rfl trivial (pu_move rfl) ?_
    refine Go.Sl.L.pu rfl rfl trivial (pu_move rfl) ?_
    refine Go.Sl.L.pu rfl rfl trivial (by first | exact pu_nil rfl | exact pu_nilF rfl) ?_
    refine Go.Sl.L.pu rfl rfl trivial (pu_fa fa_65_2 rfl) ?_
    refine Go.Sl.L.rd rfl rfl trivial (rd_ld na_3 rfl (Rdc.cl1 (by repeat constructor) rfl)) ?_
    refine Go.Sl.L.pu rfl rfl trivial (pu_move rfl) ?_
    refine Go.Sl.L.pu rfl rfl trivial (pu_max rfl rfl) ?_
    rw [show max (((o.L.made : Nat) : Int)) (k : Int) = ((max o.L.made k : Nat) : Int) by omega]
    refine Go.Sl.L.pu rfl rfl trivial (by first | exact pu_nil rfl | exact pu_nilF rfl) ?_
    refine Go.Sl.L.pu rfl rfl trivial (pu_fa fa_65_2 rfl) ?_
    refine Go.Sl.L.ac0 rfl trivial (ac_st sz_3 rfl rfl (by repeat constructor) rfl rfl rfl rfl) ?_
    rintro _ _ rfl
    refine Go.Sl.L.nil ?_
    refine Gs.lgClose (b := gb) (d := d) (n := n) (made := max o.L.made k) (ps := o.L.ps) (P := P) (a := pa) (c := pc) (by repeat constructor) rfl hP ?_
    refine Gs.drvOk (D := o.D) (by repeat constructor) fun hok => ?_
    have hrl := Nat.le_trans (readF_len n o.D (nameK k)) (bytes_le hok (nameK k))
    refine Gs.then_n ?_
    refine Gs.seq ?_
    refine Gs.reg ?_
    refine Go.Sl.L.pu rfl rfl trivial (pu_move rfl) ?_
    refine Go.Sl.L.pu rfl rfl trivial (pu_move rfl) ?_
    refine Go.Sl.L.ac rfl rfl trivial (as_call (lgRead_spec (d := d) (n := n) (made := max o.L.made k) (ps := o.L.ps) (D := o.D) (most := most) hT h1 h8 hpo (nameK k)) (by repeat constructor) (by repeat constructor)) ?_
    rintro _ _ ⟨_, ⟨ra, rc, es2, ok, rfl, hes2, rfl⟩, rfl⟩
    refine Go.Sl.L.pu rfl rfl trivial (pu_move rfl) ?_
    refine Go.Sl.L.pu rfl rfl trivial (pu_extract rfl rfl) ?_
    refine Go.Sl.L.pu rfl rfl trivial (pu_extract rfl rfl) ?_
    refine Go.Sl.L.pu rfl rfl trivial (pu_assign rfl) ?_
    refine Go.Sl.L.pu rfl rfl trivial (pu_assign rfl) ?_
    refine Go.Sl.L.nil ?_
    refine Gs.then_n ?_
    have hl2 : es2.length ≤ 1048576 := by have := congrArg List.length hes2; rw [List.length_map] at this; omega
    refine Gs.elOpen (a := ea) (c := ec) (es := es) (by repeat constructor) ?_
    refine Gs.elOpen (a := ra) (c := rc) (es := es2) (by repeat constructor) ?_
    refine Gs.reg ?_
    refine Go.Sl.L.pu rfl rfl trivial (pu_move rfl) ?_
    refine Go.Sl.L.pu rfl rfl trivial (pu_move rfl) ?_
    refine Go.Sl.L.ac rfl rfl trivial (ac_append (xs := es) (ys := es2) et_22 ek_43 rfl rfl (by repeat constructor) (SrcH.sl Tryz.underlying22 ek_43 (SlH.own (by repeat constructor))) (by first | omega | (simp; omega)) (by first | omega | (simp; omega))) ?_
    rintro _ _ ⟨a67, c67, rfl, rfl⟩
    refine Go.Sl.L.pu rfl rfl trivial (pu_assign rfl) ?_
    refine Go.Sl.L.nil ?_
    refine Gs.bigApp (L := es.map entO) (M := es2.map entO) (by repeat constructor) ?_
    rw [← List.map_append]
    refine Gs.elClose (a := a67) (c := c67) (es := es ++ es2) (by repeat constructor) ?_
    have hst2 : plainV (es ++ es2) = (openL n (ks.take (i + 1)) o0).out := by
      rw [hst]
      show plainV (es ++ es2) = o.out ++ (readF n o.D (nameK k)).es
      rw [show plainV (es ++ es2) = plainV es ++ plainV es2 from List.map_append, hes, hes2]
    refine Gs.blk_n ?_
    refine Gs.then_n ?_
    refine Gs.reg ?_
    refine Go.Sl.L.pu rfl rfl trivial (by first | exact pu_addI rfl rfl rfl (by omega) (by omega) | exact pu_add rfl rfl) ?_
    refine Go.Sl.L.pu rfl rfl trivial (pu_move rfl) ?_
    refine Go.Sl.L.nil ?_
    refine Gs.then_n ?_
    exact Gs.again1 (i + 1, a67, c67, es ++ es2) ⟨by show i + 1 ≤ ks.length; omega, hst2, by show (es ++ es2).length ≤ (i + 1) * 1048576; rw [List.length_append, Nat.add_mul]; omega⟩ (by show ks.length - (i + 1) < ks.length - i; omega) (by repeat constructor) (by dsimp only; rw [hst]; repeat constructor)
  · skip
    have hge : i = ks.length := by have := of_decide_eq_false hc2; omega
    rw [hge, List.take_length] at hes ⊢
    have hmo := hmade ks.length
    have hpo := hpsl ks.length
    rw [List.take_length] at hmo hpo
    obtain ⟨o, ho⟩ : ∃ o, o = openL n ks o0 := ⟨_, rfl⟩
    rw [← ho] at hes hpo hmo ⊢
    refine Gs.exit ?_
    refine Gs.then_x ?_
    refine Gs.then_x ?_
    refine Gs.blk_hit ?_
    refine Gs.then_n ?_
    refine Gs.seq ?_
    refine Gs.seq ?_
    refine Gs.lgOpen (made := o.L.made) (ps := o.L.ps) (b := gb) (d := d) (n := n) (by repeat constructor) fun pa pc P hP => ?_
    refine Gs.reg ?_
    refine Go.Sl.L.pu rfl rfl trivial (pu_move rfl) ?_
    refine Go.Sl.L.pu rfl rfl trivial (by first | exact pu_nil rfl | exact pu_nilF rfl) ?_
    refine Go.Sl.L.pu rfl rfl trivial (pu_fa fa_65_3 rfl) ?_
    refine Go.Sl.L.rd rfl rfl trivial (rd_ld na_63 rfl (Rdc.cl1 (by repeat constructor) rfl)) ?_
    refine Go.Sl.L.pu rfl rfl trivial (pu_len Tryz.underlying63 rfl) ?_
    refine Go.Sl.L.pu rfl rfl trivial (pu_gt rfl rfl) ?_
    refine Go.Sl.L.nil ?_
    refine Gs.then_n ?_
    refine Gs.cond rfl (fun hc4 => ?_) (fun hc4 => ?_)
    · skip
      have hne : o.L.ps ≠ [] := fun e => by
        have := of_decide_eq_true hc4
        rw [e, List.map_eq_nil_iff] at hP
        rw [hP] at this; simp at this
      have hA : A = ⟨0, o.D, o.L, o.out⟩ := by rw [hA0]; unfold openA; rw [← ho0, ← ho]; dsimp only; rw [if_pos hne]
      refine Gs.lgClose (b := gb) (d := d) (n := n) (made := o.L.made) (ps := o.L.ps) (P := P) (a := pa) (c := pc) (by repeat constructor) rfl hP ?_
      refine Gs.seq ?_
      refine Gs.reg ?_
      refine Go.Sl.L.pu rfl rfl trivial (pu_move rfl) ?_
      refine Go.Sl.L.pu rfl rfl trivial (pu_move rfl) ?_
      refine Go.Sl.L.pu rfl rfl trivial (pu_assign rfl) ?_
      refine Go.Sl.L.pu rfl rfl trivial (pu_assign rfl) ?_
      refine Go.Sl.L.pu rfl rfl trivial (pu_assign rfl) ?_
      refine Go.Sl.L.nil ?_
      refine Gs.then_n ?_
      refine Gs.ret ?_
      refine Gs.then_r ?_
      exact Gs.fin3 Tryz.results12 rfl rfl rfl  _ (.inl ⟨by rw [hA], gb, ea, ec, es, rfl, by rw [hA]; exact hes, by rw [hA]⟩) (by repeat constructor)
    · skip
      have hP0 : P = [] := List.length_eq_zero_iff.1 (by have := of_decide_eq_false hc4; omega)
      have hps0 : o.L.ps = [] := by rw [← hP, hP0]; rfl
      subst hP0
      refine Gs.lgClose (b := gb) (d := d) (n := n) (made := o.L.made) (ps := []) (P := []) (a := pa) (c := pc) (by repeat constructor) rfl rfl ?_
      have hDo : o.D.length ≤ 900 := by have := hDl ks.length; rw [List.take_length, ← ho] at this; exact this
      have hzm := zeroB_may h1 h8
      have hll := layE_len hzm
      have hno := name_ok (k := o.L.made + 1) (by omega)
      have hzr : List.replicate n.toNat (0 : Int) = zeros n := rfl
      refine Gs.skip ?_
      refine Gs.then_n ?_
      refine Gs.seq ?_
      refine Gs.regD mixed (by kernel_rfl) ?_
      refine Rg.cutAt (σ := Nat × Nat × Nat) [0, 1, 2, 3, 4, 5, 6] (fun s => [(1, int n), (7, ptr gb), (15, ptr s.2.2)]) (fun s => [cl s.2.2 43 (entC (zeroV n s.1 s.2.1)), sl 3 1 intC (some ⟨s.1, 0, none⟩) n.toNat (zeros n), sl 3 1 intC (some ⟨s.2.1, 0, none⟩) n.toNat (zeros n), lgr gb d n ⟨o.L.made, []⟩, drv d most o.D, Tx] ++ R) ?_ (fun J6 => ?_)
      · skip
        rintro ⟨ma, mb, vb⟩
        refine Rg.end (by kernel_rfl) ?_
        refine Gs.then_n ?_
        refine Gs.seq ?_
        refine Gs.entVW (k := 1) (r := Rec.zero) (a := some ⟨ma, 0, none⟩) (c := n.toNat) (v := zeros n) (b := some ⟨mb, 0, none⟩) (d := n.toNat) (w := zeros n) (by repeat constructor) ?_
        refine Gs.reg ?_
        refine Go.Sl.L.rd rfl rfl trivial (rd_lda ag_43 rfl (Rdc.cl 8 (by repeat constructor) rfl) rfl) ?_
        refine Go.Sl.L.ac rfl rfl trivial (as_call (segLay_two (A := entO (zeroV n ma mb)) (e := zeroV n ma mb) (evd_entO _) hT hzm) (by repeat constructor) (by repeat constructor)) ?_
        rintro _ _ ⟨_, ⟨la, lc, rfl, rfl⟩, rfl⟩
        refine Go.Sl.L.pu rfl rfl trivial (pu_move rfl) ?_
        refine Go.Sl.L.pu rfl rfl trivial (pu_extract rfl rfl) ?_
        refine Go.Sl.L.pu rfl rfl trivial (pu_extract rfl rfl) ?_
        refine Go.Sl.L.pu rfl rfl trivial (pu_assign rfl) ?_
        refine Go.Sl.L.pu rfl rfl trivial (pu_assign rfl) ?_
        refine Go.Sl.L.nil ?_
        refine Gs.then_n ?_
        refine Gs.seq ?_
        refine Gs.reg ?_
        refine Go.Sl.L.pu rfl rfl trivial (pu_move rfl) ?_
        refine Go.Sl.L.ac rfl rfl trivial (as_call (call_spec (d := d) (n := n) (made := o.L.made) (ps := []) (by omega)) (by repeat constructor) (by repeat constructor)) ?_
        rintro _ _ ⟨_, ⟨rfl, rfl⟩, rfl⟩
        refine Go.Sl.L.pu rfl rfl trivial (pu_assign rfl) ?_
        refine Go.Sl.L.nil ?_
        refine Gs.then_n ?_
        refine Gs.seq ?_
        refine Gs.seq ?_
        refine Gs.lgOpen (made := o.L.made + 1) (ps := []) (b := gb) (d := d) (n := n) (by repeat constructor) fun pa2 pc2 P2 hP2 => ?_
        refine Gs.reg ?_
        refine Go.Sl.L.pu rfl rfl trivial (pu_move rfl) ?_
        refine Go.Sl.L.pu rfl rfl trivial (by first | exact pu_nil rfl | exact pu_nilF rfl) ?_
        refine Go.Sl.L.pu rfl rfl trivial (pu_fa fa_65_0 rfl) ?_
        refine Go.Sl.L.rd rfl rfl trivial (rd_ld na_26 rfl (Rdc.cl1 (by repeat constructor) rfl)) ?_
        refine Go.Sl.L.pu rfl rfl trivial (pu_move rfl) ?_
        refine Go.Sl.L.pu rfl rfl trivial (pu_move rfl) ?_
        refine Go.Sl.L.ac rfl rfl trivial (as_call (append_spec (S := sl 5 1 byteC la lc (layE (zeroB n))) d most o.D (nameK (o.L.made + 1)) hno.1 (by rw [name_size]; decide) Srd.own (by omega) (by omega)) (by repeat constructor) (by repeat constructor)) ?_
        rintro _ _ ⟨_, ⟨rfl, rfl⟩, rfl⟩
        refine Go.Sl.L.pu rfl rfl trivial (pu_assign rfl) ?_
        refine Go.Sl.L.nil ?_
        refine Gs.then_n ?_
        refine Gs.seq ?_
        refine Gs.reg ?_
        refine Go.Sl.L.pu rfl rfl trivial (pu_move rfl) ?_
        refine Go.Sl.L.pu rfl rfl trivial (pu_ne rfl rfl) ?_
        refine Go.Sl.L.nil ?_
        refine Gs.then_n ?_
        refine Gs.cond rfl (fun hc5 => ?_) (fun hc5 => ?_)
        · skip
          have hne : appE most o.D (nameK (o.L.made + 1)) (layE (zeroB n)) ≠ 0 := of_decide_eq_true hc5
          have hA : A = ⟨appE most o.D (nameK (o.L.made + 1)) (layE (zeroB n)), o.D, ⟨0, []⟩, []⟩ := by rw [hA0]; unfold openA; rw [← ho0, ← ho]; dsimp only; rw [if_neg (fun h => h hps0), if_neg hne]
          have hAL : appL most o.D (nameK (o.L.made + 1)) (layE (zeroB n)) = o.D := by unfold appL; rw [if_neg hne]
          rw [hAL]
          refine Gs.seq ?_
          refine Gs.reg ?_
          refine Go.Sl.L.pu rfl rfl trivial (pu_move rfl) ?_
          refine Go.Sl.L.pu rfl rfl trivial (pu_assign rfl) ?_
          refine Go.Sl.L.pu rfl rfl trivial (pu_assign rfl) ?_
          refine Go.Sl.L.pu rfl rfl trivial (pu_assign rfl) ?_
          refine Go.Sl.L.nil ?_
          refine Gs.then_n ?_
          refine Gs.ret ?_
          refine Gs.then_r ?_
          exact Gs.fin3 Tryz.results12 rfl rfl rfl  _ (.inr ⟨by rw [hA]; exact hne, by rw [hA], by rw [hA]⟩) (by repeat constructor)
        · skip
          have heq : appE most o.D (nameK (o.L.made + 1)) (layE (zeroB n)) = 0 := Decidable.not_not.1 (of_decide_eq_false hc5)
          have hA : A = ⟨0, appL most o.D (nameK (o.L.made + 1)) (layE (zeroB n)), ⟨o.L.made + 1, [⟨nameK (o.L.made + 1), (layE (zeroB n)).length, zeros n⟩]⟩, [zeroB n]⟩ := by rw [hA0]; unfold openA; rw [← ho0, ← ho]; dsimp only; rw [if_neg (fun h => h hps0), if_pos heq]
          refine Gs.skip ?_
          refine Gs.then_n ?_
          refine Gs.seq ?_
          refine Gs.lgClose (b := gb) (d := d) (n := n) (made := o.L.made + 1) (ps := []) (P := P2) (a := pa2) (c := pc2) (by repeat constructor) rfl hP2 ?_
          refine Gs.reg ?_
          refine Go.Sl.L.pu rfl rfl trivial (pu_move rfl) ?_
          refine Go.Sl.L.pu rfl rfl trivial (pu_move rfl) ?_
          refine Go.Sl.L.pu rfl rfl trivial (pu_move rfl) ?_
          refine Go.Sl.L.pu rfl rfl trivial (pu_len Tryz.underlying75 rfl) ?_
          refine Go.Sl.L.ac rfl rfl trivial (as_call (begin_spec (d := d) (made := o.L.made + 1) (ps := []) (nm := nameK (o.L.made + 1)) (z := (layE (zeroB n)).length) h1 h8 (by simp)) (by repeat constructor) (by repeat constructor)) ?_
          rintro _ _ ⟨_, ⟨rfl, rfl⟩, rfl⟩
          refine Go.Sl.L.nil ?_
          refine Gs.then_n ?_
          refine Gs.seq ?_
          refine Gs.regD mixed (by kernel_rfl) ?_
          refine Rg.pu 0 rfl rfl (by kernel_rfl) trivial (pu_move rfl) ?_
          refine Rg.rd 1 rfl rfl (by kernel_rfl) trivial (rd_lda ag_43 rfl (Rdc.cl 8 (by repeat constructor) rfl) rfl) ?_
          refine Rg.pu 3 rfl rfl (by kernel_rfl) trivial (pu_assign rfl) ?_
          refine Rg.one (by kernel_rfl) (Stp.ac 2 rfl rfl (by kernel_rfl) trivial (ac_lit encC_43 ([zeroV n ma mb]) et_22 ek_43 rfl (by repeat constructor) rfl rfl (by decide))  ?_)
          rintro _ _ ⟨a106, rfl, rfl⟩
          refine Rg.pu 4 rfl rfl (by kernel_rfl) trivial (pu_assign rfl) ?_
          refine Rg.pu 5 rfl rfl (by kernel_rfl) trivial (pu_assign rfl) ?_
          refine Rg.end (by kernel_rfl) ?_
          refine Gs.then_n ?_
          refine Gs.ret ?_
          refine Gs.bigNil ?_
          refine Gs.takes (As := [entO (zeroV n ma mb), big []]) (by repeat constructor) (Gs.bigBack (L := [entO (zeroV n ma mb)]) .hd ?_)
          refine Gs.elClose (a := some ⟨a106, 0, none⟩) (c := 1) (es := [zeroV n ma mb]) (by repeat constructor) ?_
          exact Gs.fin3 Tryz.results12 rfl rfl rfl  _ (.inl ⟨by rw [hA], gb, some ⟨a106, 0, none⟩, 1, [zeroV n ma mb], rfl, by rw [hA]; rfl, by rw [hA]⟩) (by repeat constructor)
      · skip
        refine Rg.pu 0 rfl rfl (by kernel_rfl) trivial (pu_move rfl) ?_
        refine Rg.pu 2 rfl rfl (by kernel_rfl) trivial (pu_move rfl) ?_
        refine Rg.three (by kernel_rfl) (Stp.ac 1 rfl rfl (by kernel_rfl) trivial (ac_make intC 0 et_23 ek_3 zv_3 rfl rfl rfl (by omega) (by omega) (by omega) (by omega))  ?_) (Stp.ac 3 rfl rfl (by kernel_rfl) trivial (ac_make intC 0 et_23 ek_3 zv_3 rfl rfl rfl (by omega) (by omega) (by omega) (by omega))  ?_) (Stp.ac 5 rfl rfl (by kernel_rfl) trivial (ac_alloc zv_43 rfl)  ?_)
        · skip
          rintro _ _ ⟨ma, rfl, rfl⟩
          refine Rg.two (by kernel_rfl) (Stp.ac 3 rfl rfl (by kernel_rfl) trivial (ac_make intC 0 et_23 ek_3 zv_3 rfl rfl rfl (by omega) (by omega) (by omega) (by omega))  ?_) (Stp.ac 5 rfl rfl (by kernel_rfl) trivial (ac_alloc zv_43 rfl)  ?_)
          · skip
            rintro _ _ ⟨mb, rfl, rfl⟩
            refine Rg.pu 4 rfl rfl (by kernel_rfl) trivial (pu_build bd_43 (by repeat constructor) rfl) ?_
            refine Rg.one (by kernel_rfl) (Stp.ac 5 rfl rfl (by kernel_rfl) trivial (ac_alloc zv_43 rfl)  ?_)
            rintro _ _ ⟨vb, rfl, rfl⟩
            refine Rg.one (by kernel_rfl) (Stp.ac0 6 rfl rfl (by kernel_rfl) trivial (ac_st sz_43 rfl rfl (by repeat constructor) rfl rfl rfl rfl)  ?_)
            rintro _ _ rfl
            exact Rg.join (by kernel_rfl) (by kernel_rfl) (by repeat constructor) (by repeat constructor) (J6 (ma, mb, vb))
          · skip
            rintro _ _ ⟨vb, rfl, rfl⟩
            refine Rg.one (by kernel_rfl) (Stp.ac 3 rfl rfl (by kernel_rfl) trivial (ac_make intC 0 et_23 ek_3 zv_3 rfl rfl rfl (by omega) (by omega) (by omega) (by omega))  ?_)
            rintro _ _ ⟨mb, rfl, rfl⟩
            refine Rg.pu 4 rfl rfl (by kernel_rfl) trivial (pu_build bd_43 (by repeat constructor) rfl) ?_
            refine Rg.one (by kernel_rfl) (Stp.ac0 6 rfl rfl (by kernel_rfl) trivial (ac_st sz_43 rfl rfl (by repeat constructor) rfl rfl rfl rfl)  ?_)
            rintro _ _ rfl
            exact Rg.join (by kernel_rfl) (by kernel_rfl) (by repeat constructor) (by repeat constructor) (J6 (ma, mb, vb))
        · skip
          rintro _ _ ⟨mb, rfl, rfl⟩
          refine Rg.two (by kernel_rfl) (Stp.ac 1 rfl rfl (by kernel_rfl) trivial (ac_make intC 0 et_23 ek_3 zv_3 rfl rfl rfl (by omega) (by omega) (by omega) (by omega))  ?_) (Stp.ac 5 rfl rfl (by kernel_rfl) trivial (ac_alloc zv_43 rfl)  ?_)
          · skip
            rintro _ _ ⟨ma, rfl, rfl⟩
            refine Rg.pu 4 rfl rfl (by kernel_rfl) trivial (pu_build bd_43 (by repeat constructor) rfl) ?_
            refine Rg.one (by kernel_rfl) (Stp.ac 5 rfl rfl (by kernel_rfl) trivial (ac_alloc zv_43 rfl)  ?_)
            rintro _ _ ⟨vb, rfl, rfl⟩
            refine Rg.one (by kernel_rfl) (Stp.ac0 6 rfl rfl (by kernel_rfl) trivial (ac_st sz_43 rfl rfl (by repeat constructor) rfl rfl rfl rfl)  ?_)
            rintro _ _ rfl
            exact Rg.join (by kernel_rfl) (by kernel_rfl) (by repeat constructor) (by repeat constructor) (J6 (ma, mb, vb))
          · skip
            rintro _ _ ⟨vb, rfl, rfl⟩
            refine Rg.one (by kernel_rfl) (Stp.ac 1 rfl rfl (by kernel_rfl) trivial (ac_make intC 0 et_23 ek_3 zv_3 rfl rfl rfl (by omega) (by omega) (by omega) (by omega))  ?_)
            rintro _ _ ⟨ma, rfl, rfl⟩
            refine Rg.pu 4 rfl rfl (by kernel_rfl) trivial (pu_build bd_43 (by repeat constructor) rfl) ?_
            refine Rg.one (by kernel_rfl) (Stp.ac0 6 rfl rfl (by kernel_rfl) trivial (ac_st sz_43 rfl rfl (by repeat constructor) rfl rfl rfl rfl)  ?_)
            rintro _ _ rfl
            exact Rg.join (by kernel_rfl) (by kernel_rfl) (by repeat constructor) (by repeat constructor) (J6 (ma, mb, vb))
        · skip
          rintro _ _ ⟨vb, rfl, rfl⟩
          refine Rg.two (by kernel_rfl) (Stp.ac 1 rfl rfl (by kernel_rfl) trivial (ac_make intC 0 et_23 ek_3 zv_3 rfl rfl rfl (by omega) (by omega) (by omega) (by omega))  ?_) (Stp.ac 3 rfl rfl (by kernel_rfl) trivial (ac_make intC 0 et_23 ek_3 zv_3 rfl rfl rfl (by omega) (by omega) (by omega) (by omega))  ?_)
          · skip
            rintro _ _ ⟨ma, rfl, rfl⟩
            refine Rg.one (by kernel_rfl) (Stp.ac 3 rfl rfl (by kernel_rfl) trivial (ac_make intC 0 et_23 ek_3 zv_3 rfl rfl rfl (by omega) (by omega) (by omega) (by omega))  ?_)
            rintro _ _ ⟨mb, rfl, rfl⟩
            refine Rg.pu 4 rfl rfl (by kernel_rfl) trivial (pu_build bd_43 (by repeat constructor) rfl) ?_
            refine Rg.one (by kernel_rfl) (Stp.ac0 6 rfl rfl (by kernel_rfl) trivial (ac_st sz_43 rfl rfl (by repeat constructor) rfl rfl rfl rfl)  ?_)
            rintro _ _ rfl
            exact Rg.join (by kernel_rfl) (by kernel_rfl) (by repeat constructor) (by repeat constructor) (J6 (ma, mb, vb))
          · skip
            rintro _ _ ⟨mb, rfl, rfl⟩
            refine Rg.one (by kernel_rfl) (Stp.ac 1 rfl rfl (by kernel_rfl) trivial (ac_make intC 0 et_23 ek_3 zv_3 rfl rfl rfl (by omega) (by omega) (by omega) (by omega))  ?_)
            rintro _ _ ⟨ma, rfl, rfl⟩
            refine Rg.pu 4 rfl rfl (by kernel_rfl) trivial (pu_build bd_43 (by repeat constructor) rfl) ?_
            refine Rg.one (by kernel_rfl) (Stp.ac0 6 rfl rfl (by kernel_rfl) trivial (ac_st sz_43 rfl rfl (by repeat constructor) rfl rfl rfl rfl)  ?_)
            rintro _ _ rfl
            exact Rg.join (by kernel_rfl) (by kernel_rfl) (by repeat constructor) (by repeat constructor) (J6 (ma, mb, vb))
end Go.Proofs.YtjaafkakeccniaaGreatDoor
