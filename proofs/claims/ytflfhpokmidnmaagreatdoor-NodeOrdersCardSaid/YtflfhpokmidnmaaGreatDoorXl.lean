/- What the closing leans on: part 12. -/
import Derived.Test.YtflfhpokmidnmaaGreatDoorXk
import Derived.Test.YtflfhpokmidnmaaGreatDoorXd
import Derived.Test.YtflfhpokmidnmaaGreatDoorXc
import Derived.Test.YtflfhpokmidnmaaGreatDoorXe
import Derived.Test.YtflfhpokmidnmaaGreatDoorXh
import Derived.Test.YtflfhpokmidnmaaGreatDoorXi
namespace Go.Proofs.YtflfhpokmidnmaaGreatDoor
open Go Go.Sl Go.Gv Go.Dv Go.Bst
set_option maxRecDepth 100000
theorem segLay_two {A Tx : HProp} {e : EntV} (hE : EVd A e) (hT : RMs Tx) {n0 : Int} (hm : mayE e.p n0 = true) :
   Ct Tryz.prog 89 [entV e] [A, Tx] (fun v hs => ∃ a c, v = .tuple #[.slice a (layE e.p).length c, int 0] ∧ hs = [A, Tx, sl 5 1 byteC a c (layE e.p)]) :=
 ((segLay_spec (U := two A Tx) hE.two1 (hT.inn Inn.two2) hm).two (fun v hs ⟨a, c, _, h⟩ => ⟨_, h⟩)).mono fun v hs ⟨r, ⟨a, c, h1, h2⟩, h3⟩ => ⟨a, c, h1, by cases h2; exact h3⟩
theorem openL_len (n : Int) : ∀ (ks : List Nat) (o : OOut), (openL n ks o).D.length ≤ o.D.length
 | [], _ => Nat.le_refl _
 | k :: ks, o => by
   have h := openL_len n ks ⟨(readF n o.D (nameK k)).D, ⟨max o.L.made k, o.L.ps ++ (readF n o.D (nameK k)).ps⟩, o.out ++ (readF n o.D (nameK k)).es⟩
   have h2 : (readF n o.D (nameK k)).D.length ≤ o.D.length := by
     unfold readF
     dsimp only
     split
     · exact List.length_filter_le ..
     · dsimp only
       split
       · unfold cutL; split
         · simp [upd]
         · exact Nat.le_refl _
       · exact Nat.le_refl _
   rw [openL]; exact Nat.le_trans h h2
abbrev zeroV (n : Int) (a b : Nat) : EntV := ⟨1, ⟨some ⟨a, 0, none⟩, zeros n, n.toNat⟩, ⟨some ⟨b, 0, none⟩, zeros n, n.toNat⟩, Rec.zero⟩
theorem open_spec {d : Nat} {n most : Int} {D : List Fl} {Tx : HProp} {ks : List Nat} (hT : RMs Tx) (h1 : 1 ≤ n) (h8 : n ≤ 8) (hD : D.length ≤ 900) (hks : sortB (names D) = ks.map nameK) (hk : ∀ k ∈ ks, k < 98) :
   Ct Tryz.prog 53 [ptr d, int n] [drv d most D, Tx]
     (fun v hs => ((openA most n ks D).code = 0 ∧ ∃ b a c es, v = .tuple #[ptr b, .slice a es.length c, int 0] ∧ plainV es = (openA most n ks D).out ∧ hs = [lgr b d n (openA most n ks D).L, drv d most (openA most n ks D).D, Tx, elO a c es]) ∨
       ((openA most n ks D).code ≠ 0 ∧ v = .tuple #[.pointer none, .slice none 0 0, int (openA most n ks D).code] ∧ hs = [drv d most (openA most n ks D).D, Tx])) := by
 have hkl : ks.length ≤ 900 := by
   have := congrArg List.length hks
   simp only [sortB_length, List.length_map, names] at this
   omega
 obtain ⟨o0, ho0⟩ : ∃ o : OOut, o = ⟨D, ⟨0, []⟩, []⟩ := ⟨_, rfl⟩
 have hmade : ∀ i, (openL n (ks.take i) o0).L.made ≤ 97 := fun i => openL_made n _ _ 97 (by rw [ho0]; exact Nat.zero_le _) fun k h => by have := hk k (List.mem_of_mem_take h); omega
 have hpsl : ∀ i, (openL n (ks.take i) o0).L.ps.length ≤ 900 := fun i => by
   have := openL_ps n (ks.take i) o0
   rw [ho0] at this ⊢
   simp only [List.length_nil, List.length_take] at this
   omega
 have hDl : ∀ i, (openL n (ks.take i) o0).D.length ≤ 900 := fun i => Nat.le_trans (openL_len n _ _) (by rw [ho0]; exact hD)
 obtain ⟨A, hA0⟩ : ∃ A, A = openA most n ks D := ⟨_, rfl⟩
 rw [← hA0]
 refine Cti Tryz.func53 (by kernel_rfl) 107 Tryz.ntmps53 rfl rfl fun w0 R => ?_
 refine Gsr (Las rfl rfl (Las rfl rfl (Las rfl rfl (Lnt (Gs.seq (Gs.block (Gsr (Lmv rfl rfl (Lq rfl (pu_eqN Tryz.underlying40 rfl rfl) (Las rfl rfl (Lnt ?_)))))))))))
 refine Gs.cond_f rfl (Gsr (Lmv rfl rfl (Lq rfl (pu_lt rfl rfl) (LpuBf rfl rfl trivial (pu_move rfl) (decide_eq_false (by omega)) (Lpu rfl rfl ⟨_, rfl, rfl⟩ (pu_move rfl) (Lpu rfl rfl ⟨_, rfl, rfl⟩ (pu_gt rfl rfl) (Lpk rfl rfl rfl (Las rfl rfl (Lnt (Gs.cond_ff rfl (decide_eq_false (by omega)) (Gs.skip ?_)))))))))))
 refine Gs.blk_n (Gn (Gsr (Lmv rfl rfl (Lmv rfl rfl (Lq rfl (pu_build bd_125 (by repeat constructor) rfl) ?_)))))
 refine La rfl (ac_box rfl rfl) ?_
 rintro _ _ ⟨gb, rfl, rfl⟩
 refine Las rfl rfl (Lnil (Gs.slNil 127 3 paC (Gs.bigNil (Gs.lgClose (b := gb) (d := d) (n := n) (made := 0) (ps := []) (P := []) (a := none) (c := 0) (l := 0) (by repeat constructor) rfl rfl ?_))))
 refine Gn (Gsr (Las rfl rfl (Lnt (Gs.seq (Gsr (Lmv rfl rfl (La rfl (asC (names_spec d most D (by omega))) ?_)))))))
 rintro _ _ ⟨_, ⟨na, nc, rfl, rfl⟩, rfl⟩
 rw [hks]
 refine Lq rfl (pu_len Tryz.underlying22 rfl) (Lmv rfl rfl (Lnil (Gs.elNil ?_)))
 rw [show D = (openL n (ks.take 0) o0).D by rw [ho0]; rfl, show (⟨0, []⟩ : Lg) = (openL n (ks.take 0) o0).L by rw [ho0]; rfl]
 refine Gs.slAddr (SlH.own (by repeat constructor) : SlH _ _ 1 strC na (ks.map nameK)) fun nb no hna => ?_
 refine Gn (Gs.block (Gs.loop1 (fun s : Nat × Option Addr × Nat × List EntV => s.1 ≤ ks.length ∧ plainV s.2.2.2 = (openL n (ks.take s.1) o0).out ∧ s.2.2.2.length ≤ s.1 * 1048576) (fun s => [(0, ptr d), (1, int n), (7, ptr gb), (8, .slice s.2.1 s.2.2.2.length s.2.2.1), (35, .slice na (ks.map nameK).length nc), (36, int (ks.map nameK).length), (37, int s.1)]) (fun s => [lgr gb d n (openL n (ks.take s.1) o0).L, drv d most (openL n (ks.take s.1) o0).D, Tx, sl 9 1 strC na nc (ks.map nameK), elO s.2.1 s.2.2.1 s.2.2.2] ++ R) (fun s => ks.length - s.1) (0, none, 0, []) (⟨Nat.zero_le _, by rw [ho0]; rfl, Nat.zero_le _⟩) (by repeat constructor) (by repeat constructor) (fun s hs => ?_)))
 obtain ⟨i, ea, ec, es⟩ := s
 obtain ⟨hi, hes, hel⟩ := hs
 dsimp only at hi hes hel ⊢
 have hml : (ks.map nameK).length = ks.length := by simp
 refine Gsr (Lq rfl (pu_lt rfl rfl) (Lnt (Gs.seq (Gs.cond rfl (fun hc2 => ?_) (fun hc2 => ?_)))))
 ·
  have hlt : i < ks.length := by have := of_decide_eq_true hc2; omega
  obtain ⟨k, hki⟩ : ∃ k, ks[i]? = some k := ⟨ks[i], by simp [hlt]⟩
  have hk98 := hk k (List.mem_of_getElem? hki)
  have hnk : (ks.map nameK)[i]? = some (nameK k) := by simp [hki]
  obtain rfl := hna (by intro e; rw [e] at hnk; simp at hnk)
  obtain ⟨o, ho⟩ : ∃ o, o = openL n (ks.take i) o0 := ⟨_, rfl⟩
  have hst : openL n (ks.take (i + 1)) o0 = ⟨(readF n o.D (nameK k)).D, ⟨max o.L.made k, o.L.ps ++ (readF n o.D (nameK k)).ps⟩, o.out ++ (readF n o.D (nameK k)).es⟩ := by rw [openL_take hki, ← ho]; rfl
  have hpo := hpsl i
  have hmo := hmade i
  rw [← ho] at hes hpo hmo ⊢
  have hbi : i * 1048576 ≤ 900 * 1048576 := Nat.mul_le_mul_right _ (by omega)
  refine Gs.skip (Gn (Gs.seq (Gs.block (Gsr (Lq rfl (pu_ia se_22 rfl rfl (by omega) (by omega)) (Lr rfl (rd_ld na_9 rfl (Rdc.el0 (SlH.own (by repeat constructor)) hnk rfl rfl)) ?_))))))
  refine Las rfl rfl (Lnt (Gs.seq (Gsr (Lmv rfl rfl (La rfl (asC (hasPrefix_specL (nameK k) ⟨#[108, 111, 103, 46]⟩)) ?_)))))
  rintro _ _ ⟨_, ⟨rfl, rfl⟩, rfl⟩
  refine Lq rfl (pu_not rfl) (Lnt (Gs.cond_ff rfl (by rw [name_pre]; rfl) ?_))
  refine Gs.skip (Gn (Gsr (Lmv rfl rfl (Lq rfl (pu_sliceLS Tryz.underlying9 rfl rfl (by decide) (by rw [name_size]; decide)) ?_))))
  refine La rfl (asC (atoi_spec ((nameK k).extract 4 13) k (by rw [ByteArray.size_extract, name_size]; decide) (name_atoi (by omega)))) ?_
  rintro _ _ ⟨_, ⟨rfl, rfl⟩, rfl⟩
  refine Lmv rfl rfl (Lq rfl (pu_extract rfl rfl) (Lq rfl (pu_extract rfl rfl) (Las rfl rfl (Las rfl rfl (Lnt (Gs.seq (Gs.lgOpen (made := o.L.made) (ps := o.L.ps) (b := gb) (d := d) (n := n) (by repeat constructor) fun pa pc P hP => ?_)))))))
  refine Gs.reg (Lmv rfl rfl (Lmv rfl rfl (Lq rfl (by first | exact pu_nil rfl | exact pu_nilF rfl) ?_)))
  refine Lq rfl (pu_fa fa_125_2 rfl) (Lr rfl (rd_ld na_3 rfl (Rdc.cl1 (by repeat constructor) rfl)) ?_)
  refine Lmv rfl rfl (Lq rfl (pu_max rfl rfl) ?_)
  rw [show max (((o.L.made : Nat) : Int)) (k : Int) = ((max o.L.made k : Nat) : Int) by omega]
  refine Lq rfl (by first | exact pu_nil rfl | exact pu_nilF rfl) ?_
  refine Lq rfl (pu_fa fa_125_2 rfl) (Lac0 rfl trivial (ac_st sz_3 rfl rfl (by repeat constructor) rfl rfl rfl rfl) ?_)
  rintro _ _ rfl
  refine Lnil (Gs.lgClose (b := gb) (d := d) (n := n) (made := max o.L.made k) (ps := o.L.ps) (P := P) (a := pa) (c := pc) (by repeat constructor) rfl hP ?_)
  refine Gs.drvOk (D := o.D) (by repeat constructor) fun hok => ?_
  have hrl := Nat.le_trans (readF_len n o.D (nameK k)) (bytes_le hok (nameK k))
  refine Gn (Gsr (Lmv rfl rfl (Lmv rfl rfl (La rfl (asC (lgRead_spec (d := d) (n := n) (made := max o.L.made k) (ps := o.L.ps) (D := o.D) (most := most) hT h1 h8 hpo (nameK k))) ?_))))
  rintro _ _ ⟨_, ⟨ra, rc, es2, ok, rfl, hes2, rfl⟩, rfl⟩
  refine Lmv rfl rfl (Lq rfl (pu_extract rfl rfl) (Lq rfl (pu_extract rfl rfl) (Las rfl rfl (Las rfl rfl (Lnt ?_)))))
  have hl2 : es2.length ≤ 1048576 := by have := congrArg List.length hes2; rw [List.length_map] at this; omega
  refine Gs.elOpen (a := ea) (c := ec) (es := es) (by repeat constructor) ?_
  refine Gs.elOpen (a := ra) (c := rc) (es := es2) (by repeat constructor) ?_
  refine Gs.reg (Lmv rfl rfl (Lmv rfl rfl (La rfl (ac_append (xs := es) (ys := es2) et_98 ek_106 rfl rfl (by repeat constructor) (SrcH.sl Tryz.underlying98 ek_106 (SlH.own (by repeat constructor))) (by first | omega | (simp; omega)) (by first | omega | (simp; omega))) ?_)))
  rintro _ _ ⟨a67, c67, rfl, rfl⟩
  refine Las rfl rfl (Lnil (Gs.bigApp (L := es.map entO) (M := es2.map entO) (by repeat constructor) ?_))
  rw [← List.map_append]
  refine Gs.elClose (a := a67) (c := c67) (es := es ++ es2) (by repeat constructor) ?_
  have hst2 : plainV (es ++ es2) = (openL n (ks.take (i + 1)) o0).out := by
    rw [hst]
    show plainV (es ++ es2) = o.out ++ (readF n o.D (nameK k)).es
    rw [show plainV (es ++ es2) = plainV es ++ plainV es2 from List.map_append, hes, hes2]
  refine Gs.blk_n (Gn (Gs.reg (Lq rfl (by first | exact pu_addI rfl rfl rfl (by omega) (by omega) | exact pu_add rfl rfl) ?_)))
  refine Lmv rfl rfl (Lnt ?_)
  exact Gs.again1 (i + 1, a67, c67, es ++ es2) ⟨by show i + 1 ≤ ks.length; omega, hst2, by show (es ++ es2).length ≤ (i + 1) * 1048576; rw [List.length_append, Nat.add_mul]; omega⟩ (by show ks.length - (i + 1) < ks.length - i; omega) (by repeat constructor) (by dsimp only; rw [hst]; repeat constructor)
 have hge : i = ks.length := by have := of_decide_eq_false hc2; omega
 rw [hge, List.take_length] at hes ⊢
 have hmo := hmade ks.length
 have hpo := hpsl ks.length
 rw [List.take_length] at hmo hpo
 obtain ⟨o, ho⟩ : ∃ o, o = openL n ks o0 := ⟨_, rfl⟩
 rw [← ho] at hes hpo hmo ⊢
 refine Gs.exit (Gx (Gx (Gs.blk_hit (Gn (Gs.seq (Gs.seq (Gs.lgOpen (made := o.L.made) (ps := o.L.ps) (b := gb) (d := d) (n := n) (by repeat constructor) fun pa pc P hP => ?_)))))))
 refine Gs.reg (Lmv rfl rfl (Lq rfl (by first | exact pu_nil rfl | exact pu_nilF rfl) ?_))
 refine Lq rfl (pu_fa fa_125_3 rfl) (Lr rfl (rd_ld na_123 rfl (Rdc.cl1 (by repeat constructor) rfl)) ?_)
 refine Lq rfl (pu_len Tryz.underlying123 rfl) (Lq rfl (pu_gt rfl rfl) (Lnt (Gs.cond rfl (fun hc4 => ?_) (fun hc4 => ?_))))
 ·
  have hne : o.L.ps ≠ [] := fun e => by
    have := of_decide_eq_true hc4
    rw [e, List.map_eq_nil_iff] at hP
    rw [hP] at this; simp at this
  have hA : A = ⟨0, o.D, o.L, o.out⟩ := by rw [hA0]; unfold openA; rw [← ho0, ← ho]; dsimp only; rw [if_pos hne]
  refine Gs.lgClose (b := gb) (d := d) (n := n) (made := o.L.made) (ps := o.L.ps) (P := P) (a := pa) (c := pc) (by repeat constructor) rfl hP ?_
  refine Gsr (Lmv rfl rfl (Lmv rfl rfl (Las rfl rfl (Las rfl rfl (Las rfl rfl (Lnt (Gs.ret (Gr ?_))))))))
  exact Gs.fin3 Tryz.results53 rfl rfl rfl  _ (.inl ⟨by rw [hA], gb, ea, ec, es, rfl, by rw [hA]; exact hes, by rw [hA]⟩) (by repeat constructor)
 have hP0 : P = [] := List.length_eq_zero_iff.1 (by have := of_decide_eq_false hc4; omega)
 have hps0 : o.L.ps = [] := by rw [← hP, hP0]; rfl
 subst hP0
 refine Gs.lgClose (b := gb) (d := d) (n := n) (made := o.L.made) (ps := []) (P := []) (a := pa) (c := pc) (by repeat constructor) rfl rfl ?_
 have hDo : o.D.length ≤ 900 := by have := hDl ks.length; rw [List.take_length, ← ho] at this; exact this
 have hzm := zeroB_may h1 h8
 have hll := layE_len hzm
 have hno := name_ok (k := o.L.made + 1) (by omega)
 have hzr : List.replicate n.toNat (0 : Int) = zeros n := rfl
 refine Gs.skip (Gn (Gs.seq (Gs.regD mixed (by kernel_rfl) (Rg.cutAt (σ := Nat × Nat × Nat) [0, 1, 2, 3, 4, 5, 6] (fun s => [(1, int n), (7, ptr gb), (15, ptr s.2.2)]) (fun s => [cl s.2.2 106 (entC (zeroV n s.1 s.2.1)), sl 3 1 intC (some ⟨s.1, 0, none⟩) n.toNat (zeros n), sl 3 1 intC (some ⟨s.2.1, 0, none⟩) n.toNat (zeros n), lgr gb d n ⟨o.L.made, []⟩, drv d most o.D, Tx] ++ R) ?_ (fun J6 => ?_)))))
 ·
  rintro ⟨ma, mb, vb⟩
  refine Rg.end (by kernel_rfl) (Gn (Gs.seq (Gs.entVW (k := 1) (r := Rec.zero) (a := some ⟨ma, 0, none⟩) (c := n.toNat) (v := zeros n) (b := some ⟨mb, 0, none⟩) (d := n.toNat) (w := zeros n) (by repeat constructor) ?_)))
  refine Gs.reg (Lr rfl (rd_lda ag_106 rfl (Rdc.cl 8 (by repeat constructor) rfl) rfl) ?_)
  refine La rfl (asC (segLay_two (A := entO (zeroV n ma mb)) (e := zeroV n ma mb) (evd_entO _) hT hzm)) ?_
  rintro _ _ ⟨_, ⟨la, lc, rfl, rfl⟩, rfl⟩
  refine Lmv rfl rfl (Lq rfl (pu_extract rfl rfl) (Lq rfl (pu_extract rfl rfl) (Las rfl rfl (Las rfl rfl (Lnt (Gsr (Lmv rfl rfl (La rfl (asC (call_spec (d := d) (n := n) (made := o.L.made) (ps := []) (by omega))) ?_))))))))
  rintro _ _ ⟨_, ⟨rfl, rfl⟩, rfl⟩
  refine Las rfl rfl (Lnt (Gs.seq (Gs.seq (Gs.lgOpen (made := o.L.made + 1) (ps := []) (b := gb) (d := d) (n := n) (by repeat constructor) fun pa2 pc2 P2 hP2 => ?_))))
  refine Gs.reg (Lmv rfl rfl (Lq rfl (by first | exact pu_nil rfl | exact pu_nilF rfl) ?_))
  refine Lq rfl (pu_fa fa_125_0 rfl) (Lr rfl (rd_ld na_40 rfl (Rdc.cl1 (by repeat constructor) rfl)) ?_)
  refine Lmv rfl rfl (Lmv rfl rfl (La rfl (asC (append_spec (S := sl 5 1 byteC la lc (layE (zeroB n))) d most o.D (nameK (o.L.made + 1)) hno.1 (by rw [name_size]; decide) Srd.own (by omega) (by omega))) ?_))
  rintro _ _ ⟨_, ⟨rfl, rfl⟩, rfl⟩
  refine Las rfl rfl (Lnt (Gsr (Lmv rfl rfl (Lq rfl (pu_ne rfl rfl) (Lnt (Gs.cond rfl (fun hc5 => ?_) (fun hc5 => ?_)))))))
  ·
   have hne : appE most o.D (nameK (o.L.made + 1)) (layE (zeroB n)) ≠ 0 := of_decide_eq_true hc5
   have hA : A = ⟨appE most o.D (nameK (o.L.made + 1)) (layE (zeroB n)), o.D, ⟨0, []⟩, []⟩ := by rw [hA0]; unfold openA; rw [← ho0, ← ho]; dsimp only; rw [if_neg (fun h => h hps0), if_neg hne]
   have hAL : appL most o.D (nameK (o.L.made + 1)) (layE (zeroB n)) = o.D := by unfold appL; rw [if_neg hne]
   rw [hAL]
   refine Gsr (Lmv rfl rfl (Las rfl rfl (Las rfl rfl (Las rfl rfl (Lnt (Gs.ret (Gr ?_)))))))
   exact Gs.fin3 Tryz.results53 rfl rfl rfl  _ (.inr ⟨by rw [hA]; exact hne, by rw [hA], by rw [hA]⟩) (by repeat constructor)
  have heq : appE most o.D (nameK (o.L.made + 1)) (layE (zeroB n)) = 0 := Decidable.not_not.1 (of_decide_eq_false hc5)
  have hA : A = ⟨0, appL most o.D (nameK (o.L.made + 1)) (layE (zeroB n)), ⟨o.L.made + 1, [⟨nameK (o.L.made + 1), (layE (zeroB n)).length, zeros n⟩]⟩, [zeroB n]⟩ := by rw [hA0]; unfold openA; rw [← ho0, ← ho]; dsimp only; rw [if_neg (fun h => h hps0), if_pos heq]
  refine Gs.skip (Gn (Gs.seq (Gs.lgClose (b := gb) (d := d) (n := n) (made := o.L.made + 1) (ps := []) (P := P2) (a := pa2) (c := pc2) (by repeat constructor) rfl hP2 ?_)))
  refine Gs.reg (Lmv rfl rfl (Lmv rfl rfl (Lmv rfl rfl (Lq rfl (pu_len Tryz.underlying83 rfl) (La rfl (asC (begin_spec (d := d) (made := o.L.made + 1) (ps := []) (nm := nameK (o.L.made + 1)) (z := (layE (zeroB n)).length) h1 h8 (by simp))) ?_)))))
  rintro _ _ ⟨_, ⟨rfl, rfl⟩, rfl⟩
  refine Lnt (Gs.seq (Gs.regD mixed (by kernel_rfl) (Rmv 0 rfl (by kernel_rfl) rfl (Rr 1 rfl (by kernel_rfl) (rd_lda ag_106 rfl (Rdc.cl 8 (by repeat constructor) rfl) rfl) ?_))))
  refine Rq 3 rfl (by kernel_rfl) (pu_assign rfl) (Rg.one (by kernel_rfl) (Stp.ac 2 rfl rfl (by kernel_rfl) trivial (ac_lit encC_106 ([zeroV n ma mb]) et_98 ek_106 rfl (by repeat constructor) rfl rfl (by decide))  ?_))
  rintro _ _ ⟨a106, rfl, rfl⟩
  refine Rq 4 rfl (by kernel_rfl) (pu_assign rfl) (Rq 5 rfl (by kernel_rfl) (pu_assign rfl) (Rg.end (by kernel_rfl) (Gn (Gs.ret (Gs.bigNil (Gs.takes (As := [entO (zeroV n ma mb), big []]) (by repeat constructor) (Gs.bigBack (L := [entO (zeroV n ma mb)]) .hd ?_)))))))
  refine Gs.elClose (a := some ⟨a106, 0, none⟩) (c := 1) (es := [zeroV n ma mb]) (by repeat constructor) ?_
  exact Gs.fin3 Tryz.results53 rfl rfl rfl  _ (.inl ⟨by rw [hA], gb, some ⟨a106, 0, none⟩, 1, [zeroV n ma mb], rfl, by rw [hA]; rfl, by rw [hA]⟩) (by repeat constructor)
 refine Rmv 0 rfl (by kernel_rfl) rfl (Rmv 2 rfl (by kernel_rfl) rfl (Rg.three (by kernel_rfl) (Stp.ac 1 rfl rfl (by kernel_rfl) trivial (ac_make intC 0 et_30 ek_3 zv_3 rfl rfl rfl (by omega) (by omega) (by omega) (by omega))  ?_) (Stp.ac 3 rfl rfl (by kernel_rfl) trivial (ac_make intC 0 et_30 ek_3 zv_3 rfl rfl rfl (by omega) (by omega) (by omega) (by omega))  ?_) (Stp.ac 5 rfl rfl (by kernel_rfl) trivial (ac_alloc zv_106 rfl)  ?_)))
 ·
  rintro _ _ ⟨ma, rfl, rfl⟩
  refine Rg.two (by kernel_rfl) (Stp.ac 3 rfl rfl (by kernel_rfl) trivial (ac_make intC 0 et_30 ek_3 zv_3 rfl rfl rfl (by omega) (by omega) (by omega) (by omega))  ?_) (Stp.ac 5 rfl rfl (by kernel_rfl) trivial (ac_alloc zv_106 rfl)  ?_)
  ·
   rintro _ _ ⟨mb, rfl, rfl⟩
   refine Rq 4 rfl (by kernel_rfl) (pu_build bd_106 (by repeat constructor) rfl) ?_
   refine Rg.one (by kernel_rfl) (Stp.ac 5 rfl rfl (by kernel_rfl) trivial (ac_alloc zv_106 rfl)  ?_)
   rintro _ _ ⟨vb, rfl, rfl⟩
   refine Rg.one (by kernel_rfl) (Stp.ac0 6 rfl rfl (by kernel_rfl) trivial (ac_st sz_106 rfl rfl (by repeat constructor) rfl rfl rfl rfl)  ?_)
   rintro _ _ rfl
   exact Rg.join (by kernel_rfl) (by kernel_rfl) (by repeat constructor) (by repeat constructor) (J6 (ma, mb, vb))
  rintro _ _ ⟨vb, rfl, rfl⟩
  refine Rg.one (by kernel_rfl) (Stp.ac 3 rfl rfl (by kernel_rfl) trivial (ac_make intC 0 et_30 ek_3 zv_3 rfl rfl rfl (by omega) (by omega) (by omega) (by omega))  ?_)
  rintro _ _ ⟨mb, rfl, rfl⟩
  refine Rq 4 rfl (by kernel_rfl) (pu_build bd_106 (by repeat constructor) rfl) ?_
  refine Rg.one (by kernel_rfl) (Stp.ac0 6 rfl rfl (by kernel_rfl) trivial (ac_st sz_106 rfl rfl (by repeat constructor) rfl rfl rfl rfl)  ?_)
  rintro _ _ rfl
  exact Rg.join (by kernel_rfl) (by kernel_rfl) (by repeat constructor) (by repeat constructor) (J6 (ma, mb, vb))
 ·
  rintro _ _ ⟨mb, rfl, rfl⟩
  refine Rg.two (by kernel_rfl) (Stp.ac 1 rfl rfl (by kernel_rfl) trivial (ac_make intC 0 et_30 ek_3 zv_3 rfl rfl rfl (by omega) (by omega) (by omega) (by omega))  ?_) (Stp.ac 5 rfl rfl (by kernel_rfl) trivial (ac_alloc zv_106 rfl)  ?_)
  ·
   rintro _ _ ⟨ma, rfl, rfl⟩
   refine Rq 4 rfl (by kernel_rfl) (pu_build bd_106 (by repeat constructor) rfl) ?_
   refine Rg.one (by kernel_rfl) (Stp.ac 5 rfl rfl (by kernel_rfl) trivial (ac_alloc zv_106 rfl)  ?_)
   rintro _ _ ⟨vb, rfl, rfl⟩
   refine Rg.one (by kernel_rfl) (Stp.ac0 6 rfl rfl (by kernel_rfl) trivial (ac_st sz_106 rfl rfl (by repeat constructor) rfl rfl rfl rfl)  ?_)
   rintro _ _ rfl
   exact Rg.join (by kernel_rfl) (by kernel_rfl) (by repeat constructor) (by repeat constructor) (J6 (ma, mb, vb))
  rintro _ _ ⟨vb, rfl, rfl⟩
  refine Rg.one (by kernel_rfl) (Stp.ac 1 rfl rfl (by kernel_rfl) trivial (ac_make intC 0 et_30 ek_3 zv_3 rfl rfl rfl (by omega) (by omega) (by omega) (by omega))  ?_)
  rintro _ _ ⟨ma, rfl, rfl⟩
  refine Rq 4 rfl (by kernel_rfl) (pu_build bd_106 (by repeat constructor) rfl) ?_
  refine Rg.one (by kernel_rfl) (Stp.ac0 6 rfl rfl (by kernel_rfl) trivial (ac_st sz_106 rfl rfl (by repeat constructor) rfl rfl rfl rfl)  ?_)
  rintro _ _ rfl
  exact Rg.join (by kernel_rfl) (by kernel_rfl) (by repeat constructor) (by repeat constructor) (J6 (ma, mb, vb))
 rintro _ _ ⟨vb, rfl, rfl⟩
 refine Rg.two (by kernel_rfl) (Stp.ac 1 rfl rfl (by kernel_rfl) trivial (ac_make intC 0 et_30 ek_3 zv_3 rfl rfl rfl (by omega) (by omega) (by omega) (by omega))  ?_) (Stp.ac 3 rfl rfl (by kernel_rfl) trivial (ac_make intC 0 et_30 ek_3 zv_3 rfl rfl rfl (by omega) (by omega) (by omega) (by omega))  ?_)
 ·
  rintro _ _ ⟨ma, rfl, rfl⟩
  refine Rg.one (by kernel_rfl) (Stp.ac 3 rfl rfl (by kernel_rfl) trivial (ac_make intC 0 et_30 ek_3 zv_3 rfl rfl rfl (by omega) (by omega) (by omega) (by omega))  ?_)
  rintro _ _ ⟨mb, rfl, rfl⟩
  refine Rq 4 rfl (by kernel_rfl) (pu_build bd_106 (by repeat constructor) rfl) ?_
  refine Rg.one (by kernel_rfl) (Stp.ac0 6 rfl rfl (by kernel_rfl) trivial (ac_st sz_106 rfl rfl (by repeat constructor) rfl rfl rfl rfl)  ?_)
  rintro _ _ rfl
  exact Rg.join (by kernel_rfl) (by kernel_rfl) (by repeat constructor) (by repeat constructor) (J6 (ma, mb, vb))
 rintro _ _ ⟨mb, rfl, rfl⟩
 refine Rg.one (by kernel_rfl) (Stp.ac 1 rfl rfl (by kernel_rfl) trivial (ac_make intC 0 et_30 ek_3 zv_3 rfl rfl rfl (by omega) (by omega) (by omega) (by omega))  ?_)
 rintro _ _ ⟨ma, rfl, rfl⟩
 refine Rq 4 rfl (by kernel_rfl) (pu_build bd_106 (by repeat constructor) rfl) ?_
 refine Rg.one (by kernel_rfl) (Stp.ac0 6 rfl rfl (by kernel_rfl) trivial (ac_st sz_106 rfl rfl (by repeat constructor) rfl rfl rfl rfl)  ?_)
 rintro _ _ rfl
 exact Rg.join (by kernel_rfl) (by kernel_rfl) (by repeat constructor) (by repeat constructor) (J6 (ma, mb, vb))
end Go.Proofs.YtflfhpokmidnmaaGreatDoor
namespace Go.Proofs.YtflfhpokmidnmaaGreatDoor
open Go Go.Sl Go.Gv Go.Dv Go.Bst
set_option maxRecDepth 100000
theorem mayW_eq (n : Int) (e : EntP) (v w : List Int) : mayW n e v w = (!decide (e.kind = 1) && (mayE e n && (vecB v n && (vecB w n && belowB w v)))) := rfl
theorem writeL_no {most n : Int} {D : List Fl} {made : Nat} {U : List Pa} {p : Pa} {e : EntP} {v w : List Int} (h : mayW n e v w = false) : writeL most n D made U p e v w = ⟨2, D, ⟨made, U ++ [p]⟩⟩ := by unfold writeL; rw [if_pos h]
set_option maxHeartbeats 1000000 in
theorem write_spec {b d : Nat} {n most : Int} {made : Nat} {U : List Pa} {p : Pa} {D : List Fl} {Ux : HProp} {e : EntV} {va wa : Option Addr} {vc wc : Nat} {v w : List Int} (hE : EVd Ux e) (hV : Srd Ux 1 intC va v) (hW : Srd Ux 1 intC wa w) (hR : RMs Ux) (h1 : 1 ≤ n) (h8 : n ≤ 8)
   (hm : made + 1 < 100) (hU : U.length ≤ 900) (hp : p.t.length = n.toNat) (hz : p.z ≤ 1048576) (hD : D.length ≤ 900) (hn : asciiB p.n = true) (hns : p.n.size ≤ 100) (hs : syncE D [p.n] = 0) :
   Ct Tryz.prog 69 [ptr b, entV e, .slice va v.length vc, .slice wa w.length wc] [lgr b d n ⟨made, U ++ [p]⟩, drv d most D, Ux]
     (fun r hs => r = int (writeL most n D made U p e.p v w).e ∧ hs = [lgr b d n (writeL most n D made U p e.p v w).L, drv d most (writeL most n D made U p e.p v w).D, Ux]) := by
 obtain ⟨A, hA0⟩ : ∃ A, A = writeL most n D made U p e.p v w := ⟨_, rfl⟩
 rw [← hA0]
 have hno2 : mayW n e.p v w = false → A = ⟨2, D, ⟨made, U ++ [p]⟩⟩ := fun h => by rw [hA0]; exact writeL_no h
 have hmk : e.p.kind = e.kind := rfl
 refine Cti Tryz.func69 (by kernel_rfl) 133 Tryz.ntmps69 rfl rfl fun w0 R => ?_
 refine Gs.lgOpen (made := made) (ps := U ++ [p]) (b := b) (d := d) (n := n) (by repeat constructor) fun pa pc P hP => ?_
 obtain ⟨V, ⟨xp, xa, xc⟩, rfl, hVm, hx⟩ := split_last hP
 obtain rfl : xp = p := hx
 have hVl : V.length = U.length := by rw [← hVm, List.length_map]
 have hPx : (V ++ [(⟨xp, xa, xc⟩ : PaV)])[V.length]? = some ⟨xp, xa, xc⟩ := by simp
 have hPl : ((V ++ [(⟨xp, xa, xc⟩ : PaV)]).length : Int) - 1 = ((V.length : Nat) : Int) := by rw [List.length_append, List.length_cons, List.length_nil]; omega
 refine Gs.slAddr (xs := V ++ [(⟨xp, xa, xc⟩ : PaV)]) (SlH.own (E := 127) (enc := paC) (by repeat constructor)) fun pb po hpa => ?_
 obtain rfl := hpa (by simp)
 refine Gsr (La rfl (ac_box rfl rfl) ?_)
 rintro _ _ ⟨vb, rfl, rfl⟩
 refine Las rfl rfl (Lnt (Gs.seq (Gs.block (Gsr (Lmv rfl rfl (Lq rfl (pu_eqN Tryz.underlying72 rfl rfl) (Las rfl rfl (Lnt (Gs.cond_f rfl (Gs.seq (Gs.regD mixed (by kernel_rfl) ?_)))))))))))
 refine Rq 0 rfl (by kernel_rfl) (pu_fa fa_106_0 rfl) (Rr 1 rfl (by kernel_rfl) (rd_ld na_3 rfl (Rdc.cl1 (by repeat constructor) rfl)) ?_)
 refine Rq 2 rfl (by kernel_rfl) (pu_eq rfl rfl) (Rg.puB 3 rfl rfl (by kernel_rfl) trivial (pu_move rfl) (fun hg3 => ?_) (fun hg3 => ?_))
 ·
  have hno := hno2 (by rw [mayW_eq, hmk, hg3]; rfl)
  refine Rof 4 rfl (by kernel_rfl) rfl (Rof 5 rfl (by kernel_rfl) rfl (Rof 6 rfl (by kernel_rfl) rfl (Rof 7 rfl (by kernel_rfl) rfl (Rof 8 rfl (by kernel_rfl) rfl (Rof 9 rfl (by kernel_rfl) rfl (Rof 10 rfl (by kernel_rfl) rfl (Rpk 11 rfl (by kernel_rfl) rfl rfl (Rmv 12 rfl (by kernel_rfl) rfl (Rof 13 rfl (by kernel_rfl) rfl (Rof 14 rfl (by kernel_rfl) rfl (Rof 15 rfl (by kernel_rfl) rfl ?_)))))))))))
  refine Rof 16 rfl (by kernel_rfl) rfl (Rof 17 rfl (by kernel_rfl) rfl (Rof 18 rfl (by kernel_rfl) rfl (Rof 19 rfl (by kernel_rfl) rfl (Rpk 20 rfl (by kernel_rfl) rfl rfl (Rmv 21 rfl (by kernel_rfl) rfl (Rof 22 rfl (by kernel_rfl) rfl (Rof 23 rfl (by kernel_rfl) rfl (Rof 24 rfl (by kernel_rfl) rfl (Rof 25 rfl (by kernel_rfl) rfl (Rof 26 rfl (by kernel_rfl) rfl (Rof 27 rfl (by kernel_rfl) rfl ?_)))))))))))
  refine Rof 28 rfl (by kernel_rfl) rfl (Rpk 29 rfl (by kernel_rfl) rfl rfl (Rmv 30 rfl (by kernel_rfl) rfl (Rof 31 rfl (by kernel_rfl) rfl (Rof 32 rfl (by kernel_rfl) rfl (Rof 33 rfl (by kernel_rfl) rfl (Rof 34 rfl (by kernel_rfl) rfl (Rpk 35 rfl (by kernel_rfl) rfl rfl (Rq 36 rfl (by kernel_rfl) (pu_assign rfl) (Rg.end (by kernel_rfl) (Gn (Gs.cond_t rfl ?_)))))))))))
  refine Gsr (Las rfl rfl (Lnt (Gs.ret (Gs.blk_r (Gr (Gs.lgClose (b := b) (d := d) (n := n) (made := made) (ps := U ++ [xp]) (P := V ++ [(⟨xp, xa, xc⟩ : PaV)]) (a := some ⟨pb, po, none⟩) (c := pc) (by repeat constructor) rfl hP ?_))))))
  exact Gs.fin1 Tryz.results69 rfl _ (⟨by rw [hno], by rw [hno]⟩) (by repeat constructor)
 refine Rg.rd 4 rfl rfl (by kernel_rfl) ⟨_, rfl, rfl⟩ (rd_lda ag_106 rfl (Rdc.cl 8 (by repeat constructor) rfl) rfl) ?_
 refine Rg.pu 5 rfl rfl (by kernel_rfl) ⟨_, rfl, rfl⟩ (pu_move rfl) (Rg.pu 6 rfl rfl (by kernel_rfl) ⟨_, rfl, rfl⟩ (by first | exact pu_nil rfl | exact pu_nilF rfl) ?_)
 refine Rg.pu 7 rfl rfl (by kernel_rfl) ⟨_, rfl, rfl⟩ (pu_fa fa_125_1 rfl) (Rg.rd 8 rfl rfl (by kernel_rfl) ⟨_, rfl, rfl⟩ (rd_ld na_3 rfl (Rdc.cl1 (by repeat constructor) rfl)) ?_)
 refine Rg.one (by kernel_rfl) (Stp.ac 9 rfl rfl (by kernel_rfl) ⟨_, rfl, rfl⟩ (asC (segMay_spec hE hR n))  ?_)
 rintro _ _ ⟨_, ⟨rfl, rfl⟩, rfl⟩
 refine Rg.pu 10 rfl rfl (by kernel_rfl) ⟨_, rfl, rfl⟩ (pu_not rfl) (Rpk 11 rfl (by kernel_rfl) rfl rfl (Rg.puB 12 rfl rfl (by kernel_rfl) trivial (pu_move rfl) (fun hg12 => ?_) (fun hg12 => ?_)))
 ·
  have hq : mayE e.p n = false := by simpa using hg12
  have hno := hno2 (by rw [mayW_eq, hq, Bool.false_and, Bool.and_false])
  refine Rof 13 rfl (by kernel_rfl) rfl (Rof 14 rfl (by kernel_rfl) rfl (Rof 15 rfl (by kernel_rfl) rfl (Rof 16 rfl (by kernel_rfl) rfl (Rof 17 rfl (by kernel_rfl) rfl (Rof 18 rfl (by kernel_rfl) rfl (Rof 19 rfl (by kernel_rfl) rfl (Rpk 20 rfl (by kernel_rfl) rfl rfl (Rmv 21 rfl (by kernel_rfl) rfl (Rof 22 rfl (by kernel_rfl) rfl (Rof 23 rfl (by kernel_rfl) rfl (Rof 24 rfl (by kernel_rfl) rfl ?_)))))))))))
  refine Rof 25 rfl (by kernel_rfl) rfl (Rof 26 rfl (by kernel_rfl) rfl (Rof 27 rfl (by kernel_rfl) rfl (Rof 28 rfl (by kernel_rfl) rfl (Rpk 29 rfl (by kernel_rfl) rfl rfl (Rmv 30 rfl (by kernel_rfl) rfl (Rof 31 rfl (by kernel_rfl) rfl (Rof 32 rfl (by kernel_rfl) rfl (Rof 33 rfl (by kernel_rfl) rfl (Rof 34 rfl (by kernel_rfl) rfl (Rpk 35 rfl (by kernel_rfl) rfl rfl (Rq 36 rfl (by kernel_rfl) (pu_assign rfl) ?_)))))))))))
  refine Rg.end (by kernel_rfl) (Gn (Gs.cond_t rfl (Gsr (Las rfl rfl (Lnt (Gs.ret (Gs.blk_r (Gr (Gs.lgClose (b := b) (d := d) (n := n) (made := made) (ps := U ++ [xp]) (P := V ++ [(⟨xp, xa, xc⟩ : PaV)]) (a := some ⟨pb, po, none⟩) (c := pc) (by repeat constructor) rfl hP ?_)))))))))
  exact Gs.fin1 Tryz.results69 rfl _ (⟨by rw [hno], by rw [hno]⟩) (by repeat constructor)
 have hq1 : mayE e.p n = true := by simpa using hg12
 refine Rg.pu 13 rfl rfl (by kernel_rfl) ⟨_, rfl, rfl⟩ (pu_move rfl) (Rg.pu 14 rfl rfl (by kernel_rfl) ⟨_, rfl, rfl⟩ (pu_move rfl) (Rg.pu 15 rfl rfl (by kernel_rfl) ⟨_, rfl, rfl⟩ (by first | exact pu_nil rfl | exact pu_nilF rfl) ?_))
 refine Rg.pu 16 rfl rfl (by kernel_rfl) ⟨_, rfl, rfl⟩ (pu_fa fa_125_1 rfl) (Rg.rd 17 rfl rfl (by kernel_rfl) ⟨_, rfl, rfl⟩ (rd_ld na_3 rfl (Rdc.cl1 (by repeat constructor) rfl)) ?_)
 refine Rg.one (by kernel_rfl) (Stp.ac 18 rfl rfl (by kernel_rfl) ⟨_, rfl, rfl⟩ (asC (vecMay_spec hV n))  ?_)
 rintro _ _ ⟨_, ⟨rfl, rfl⟩, rfl⟩
 refine Rg.pu 19 rfl rfl (by kernel_rfl) ⟨_, rfl, rfl⟩ (pu_not rfl) (Rpk 20 rfl (by kernel_rfl) rfl rfl (Rg.puB 21 rfl rfl (by kernel_rfl) trivial (pu_move rfl) (fun hg21 => ?_) (fun hg21 => ?_)))
 ·
  have hq : vecB v n = false := by simpa using hg21
  have hno := hno2 (by rw [mayW_eq, hq, Bool.false_and, Bool.and_false, Bool.and_false])
  refine Rof 22 rfl (by kernel_rfl) rfl (Rof 23 rfl (by kernel_rfl) rfl (Rof 24 rfl (by kernel_rfl) rfl (Rof 25 rfl (by kernel_rfl) rfl (Rof 26 rfl (by kernel_rfl) rfl (Rof 27 rfl (by kernel_rfl) rfl (Rof 28 rfl (by kernel_rfl) rfl (Rpk 29 rfl (by kernel_rfl) rfl rfl (Rmv 30 rfl (by kernel_rfl) rfl (Rof 31 rfl (by kernel_rfl) rfl (Rof 32 rfl (by kernel_rfl) rfl (Rof 33 rfl (by kernel_rfl) rfl ?_)))))))))))
  refine Rof 34 rfl (by kernel_rfl) rfl (Rpk 35 rfl (by kernel_rfl) rfl rfl (Rq 36 rfl (by kernel_rfl) (pu_assign rfl) (Rg.end (by kernel_rfl) (Gn (Gs.cond_t rfl (Gsr (Las rfl rfl (Lnt (Gs.ret (Gs.blk_r (Gr ?_)))))))))))
  refine Gs.lgClose (b := b) (d := d) (n := n) (made := made) (ps := U ++ [xp]) (P := V ++ [(⟨xp, xa, xc⟩ : PaV)]) (a := some ⟨pb, po, none⟩) (c := pc) (by repeat constructor) rfl hP ?_
  exact Gs.fin1 Tryz.results69 rfl _ (⟨by rw [hno], by rw [hno]⟩) (by repeat constructor)
 have hq2 : vecB v n = true := by simpa using hg21
 refine Rg.pu 22 rfl rfl (by kernel_rfl) ⟨_, rfl, rfl⟩ (pu_move rfl) (Rg.pu 23 rfl rfl (by kernel_rfl) ⟨_, rfl, rfl⟩ (pu_move rfl) (Rg.pu 24 rfl rfl (by kernel_rfl) ⟨_, rfl, rfl⟩ (by first | exact pu_nil rfl | exact pu_nilF rfl) ?_))
 refine Rg.pu 25 rfl rfl (by kernel_rfl) ⟨_, rfl, rfl⟩ (pu_fa fa_125_1 rfl) (Rg.rd 26 rfl rfl (by kernel_rfl) ⟨_, rfl, rfl⟩ (rd_ld na_3 rfl (Rdc.cl1 (by repeat constructor) rfl)) ?_)
 refine Rg.one (by kernel_rfl) (Stp.ac 27 rfl rfl (by kernel_rfl) ⟨_, rfl, rfl⟩ (asC (vecMay_spec hW n))  ?_)
 rintro _ _ ⟨_, ⟨rfl, rfl⟩, rfl⟩
 refine Rg.pu 28 rfl rfl (by kernel_rfl) ⟨_, rfl, rfl⟩ (pu_not rfl) (Rpk 29 rfl (by kernel_rfl) rfl rfl (Rg.puB 30 rfl rfl (by kernel_rfl) trivial (pu_move rfl) (fun hg30 => ?_) (fun hg30 => ?_)))
 ·
  have hq : vecB w n = false := by simpa using hg30
  have hno := hno2 (by rw [mayW_eq, hq, Bool.false_and, Bool.and_false, Bool.and_false, Bool.and_false])
  refine Rof 31 rfl (by kernel_rfl) rfl (Rof 32 rfl (by kernel_rfl) rfl (Rof 33 rfl (by kernel_rfl) rfl (Rof 34 rfl (by kernel_rfl) rfl (Rpk 35 rfl (by kernel_rfl) rfl rfl (Rq 36 rfl (by kernel_rfl) (pu_assign rfl) (Rg.end (by kernel_rfl) (Gn (Gs.cond_t rfl (Gsr (Las rfl rfl (Lnt ?_)))))))))))
  refine Gs.ret (Gs.blk_r (Gr (Gs.lgClose (b := b) (d := d) (n := n) (made := made) (ps := U ++ [xp]) (P := V ++ [(⟨xp, xa, xc⟩ : PaV)]) (a := some ⟨pb, po, none⟩) (c := pc) (by repeat constructor) rfl hP ?_)))
  exact Gs.fin1 Tryz.results69 rfl _ (⟨by rw [hno], by rw [hno]⟩) (by repeat constructor)
 have hq3 : vecB w n = true := by simpa using hg30
 refine Rg.pu 31 rfl rfl (by kernel_rfl) ⟨_, rfl, rfl⟩ (pu_move rfl) (Rg.pu 32 rfl rfl (by kernel_rfl) ⟨_, rfl, rfl⟩ (pu_move rfl) (Rg.one (by kernel_rfl) (Stp.ac 33 rfl rfl (by kernel_rfl) ⟨_, rfl, rfl⟩ (asC (below_spec hW hV (vec_small hq3)))  ?_)))
 rintro _ _ ⟨_, ⟨rfl, rfl⟩, rfl⟩
 refine Rg.pu 34 rfl rfl (by kernel_rfl) ⟨_, rfl, rfl⟩ (pu_not rfl) (Rpk 35 rfl (by kernel_rfl) rfl rfl (Rq 36 rfl (by kernel_rfl) (pu_assign rfl) (Rg.end (by kernel_rfl) (Gn (Gs.cond rfl (fun hc1 => ?_) (fun hc1 => ?_))))))
 ·
  have hq : belowB w v = false := by simpa using hc1
  have hno := hno2 (by rw [mayW_eq, hq, Bool.and_false, Bool.and_false, Bool.and_false, Bool.and_false])
  refine Gsr (Las rfl rfl (Lnt (Gs.ret (Gs.blk_r (Gr (Gs.lgClose (b := b) (d := d) (n := n) (made := made) (ps := U ++ [xp]) (P := V ++ [(⟨xp, xa, xc⟩ : PaV)]) (a := some ⟨pb, po, none⟩) (c := pc) (by repeat constructor) rfl hP ?_))))))
  exact Gs.fin1 Tryz.results69 rfl _ (⟨by rw [hno], by rw [hno]⟩) (by repeat constructor)
 have hq4 : belowB w v = true := by simpa using hc1
 have hk1 : e.kind ≠ 1 := of_decide_eq_false hg3
 have hw : mayW n e.p v w = true := by rw [mayW_eq, hmk, decide_eq_false hk1, hq1, hq2, hq3, hq4]; rfl
 obtain ⟨-, -, hbm⟩ := mayW_iff hw
 have hl1 := layE_len hq1
 have hl2 := base_len hbm
 have hl3 := layE_pos e.p
 have hnm := name_ok (k := made + 1) (by omega)
 refine Gs.skip (Gs.blk_n (Gn (Gsr (Lr rfl (rd_lda ag_106 rfl (Rdc.cl 8 (by repeat constructor) rfl) rfl) ?_))))
 refine La rfl (asC (segLay_spec hE hR hq1)) ?_
 rintro _ _ ⟨_, ⟨la, lc, rfl, rfl⟩, rfl⟩
 refine Lmv rfl rfl (Lq rfl (pu_extract rfl rfl) (Lq rfl (pu_extract rfl rfl) (Las rfl rfl (Las rfl rfl (Lnt (Gs.seq (Gs.regD mixed (by kernel_rfl) (Rmv 0 rfl (by kernel_rfl) rfl (Rq 1 rfl (by kernel_rfl) (by first | exact pu_nil rfl | exact pu_nilF rfl) ?_)))))))))
 refine Rq 2 rfl (by kernel_rfl) (pu_fa fa_125_3 rfl) (Rr 3 rfl (by kernel_rfl) (rd_ld na_123 rfl (Rdc.cl1 (by repeat constructor) rfl)) ?_)
 refine Rmv 4 rfl (by kernel_rfl) rfl (Rq 5 rfl (by kernel_rfl) (by first | exact pu_nil rfl | exact pu_nilF rfl) ?_)
 refine Rq 6 rfl (by kernel_rfl) (pu_fa fa_125_3 rfl) (Rr 7 rfl (by kernel_rfl) (rd_ld na_123 rfl (Rdc.cl1 (by repeat constructor) rfl)) ?_)
 refine Rq 8 rfl (by kernel_rfl) (pu_len Tryz.underlying123 rfl) (Rq 9 rfl (by kernel_rfl) (pu_subI (z := ((V.length : Nat) : Int)) rfl rfl hPl.symm (by omega) (by omega)) ?_)
 refine Rq 10 rfl (by kernel_rfl) (pu_ia se_123 rfl rfl (by omega) (by rw [List.length_append, List.length_cons, List.length_nil]; omega)) ?_
 refine Rr 11 rfl (by kernel_rfl) (rd_lda ag_127 rfl (Rdc.el0 (SlH.own (xs := V ++ [(⟨xp, xa, xc⟩ : PaV)]) (E := 127) (enc := paC) (sz := 3) (by repeat constructor)) hPx rfl rfl) rfl) ?_
 refine Rg.one (by kernel_rfl) (Stp.acK 12 rfl rfl (by kernel_rfl) trivial (ac_alloc zv_127 rfl) (by rintro _ _ ⟨qb, rfl, rfl⟩ w s; first | exact s.drop | exact s | exact Ent.sat (by repeat constructor) s) ?_)
 rintro _ _ ⟨qb, rfl, rfl⟩
 refine Rg.one (by kernel_rfl) (Stp.ac0 13 rfl rfl (by kernel_rfl) trivial (ac_st sz_127 rfl rfl (by repeat constructor) rfl rfl rfl rfl)  ?_)
 rintro _ _ rfl
 refine Rg.end (by kernel_rfl) (Gn (Gs.seq (Gsr (Lq rfl (pu_fa fa_127_1 rfl) (Lr rfl (rd_ld na_3 rfl (Rdc.cl1 (by repeat constructor) rfl)) ?_)))))
 refine Lq rfl (pu_lt rfl rfl) (Lnt (Gs.cond rfl (fun hc2 => ?_) (fun hc2 => ?_)))
 ·
  have hz4 : xp.z < 400 := by have := of_decide_eq_true hc2; exact Int.ofNat_lt.1 this
  refine Gs.seq (Gs.seq (Gs.regD mixed (by kernel_rfl) (Rmv 0 rfl (by kernel_rfl) rfl (Rq 1 rfl (by kernel_rfl) (by first | exact pu_nil rfl | exact pu_nilF rfl) ?_))))
  refine Rq 2 rfl (by kernel_rfl) (pu_fa fa_125_0 rfl) (Rr 3 rfl (by kernel_rfl) (rd_ld na_40 rfl (Rdc.cl1 (by repeat constructor) rfl)) ?_)
  refine Rq 4 rfl (by kernel_rfl) (pu_fa fa_127_0 rfl) (Rr 5 rfl (by kernel_rfl) (rd_ld na_9 rfl (Rdc.cl1 (by repeat constructor) rfl)) ?_)
  refine Rmv 6 rfl (by kernel_rfl) rfl (Rg.one (by kernel_rfl) (Stp.ac 7 rfl rfl (by kernel_rfl) trivial (asC (append_spec (S := sl 5 1 byteC la lc (layE e.p)) d most D xp.n hn (by omega) Srd.own (by omega) (by omega)))  ?_))
  rintro _ _ ⟨_, ⟨rfl, rfl⟩, rfl⟩
  refine Rq 8 rfl (by kernel_rfl) (pu_assign rfl) (Rg.end (by kernel_rfl) (Gn (Gsr (Lmv rfl rfl (Lq rfl (pu_ne rfl rfl) (Lnt (Gs.cond rfl (fun hc3 => ?_) (fun hc3 => ?_))))))))
  ·
   have hne : appE most D xp.n (layE e.p) ≠ 0 := of_decide_eq_true hc3
   have hA : A = ⟨appE most D xp.n (layE e.p), D, ⟨made, U ++ [xp]⟩⟩ := by rw [hA0]; unfold writeL; rw [if_neg (by rw [hw]; decide), if_pos hz4, if_neg hne]
   have hAL : appL most D xp.n (layE e.p) = D := by unfold appL; rw [if_neg hne]
   rw [hAL]
   refine Gsr (Lmv rfl rfl (Las rfl rfl (Lnt (Gs.ret (Gr (Gr (Gs.lgClose (b := b) (d := d) (n := n) (made := made) (ps := U ++ [xp]) (P := V ++ [(⟨xp, xa, xc⟩ : PaV)]) (a := some ⟨pb, po, none⟩) (c := pc) (by repeat constructor) rfl hP ?_)))))))
   exact Gs.fin1 Tryz.results69 rfl _ (⟨by rw [hA], by rw [hA]⟩) (by repeat constructor)
  have heq : appE most D xp.n (layE e.p) = 0 := Decidable.not_not.1 (of_decide_eq_false hc3)
  have hA : A = ⟨0, appL most D xp.n (layE e.p), ⟨made, U ++ [noteP xp e.p (layE e.p).length]⟩⟩ := by rw [hA0]; unfold writeL; rw [if_neg (by rw [hw]; decide), if_pos hz4, if_pos heq]
  refine Gs.skip (Gn (Gs.seq (Gs.lgClose (b := b) (d := d) (n := n) (made := made) (ps := U ++ [xp]) (P := V ++ [(⟨xp, xa, xc⟩ : PaV)]) (a := some ⟨pb, po, none⟩) (c := pc) (by repeat constructor) rfl hP ?_)))
  refine Gs.reg (Lmv rfl rfl (Lr rfl (rd_lda ag_106 rfl (Rdc.cl 8 (by repeat constructor) rfl) rfl) ?_))
  refine Lmv rfl rfl (Lq rfl (pu_len Tryz.underlying83 rfl) (La rfl (asC (note_spec (d := d) (n := n) (made := made) (U := U) (p := xp) (e := e) (z := (layE e.p).length) (by omega) (by omega) (fun hk => by have := rec_in hq1 hk; rw [hp]; exact ⟨this.1, by have h2 : e.r.o < n := this.2; omega⟩))) ?_))
  rintro _ _ ⟨_, ⟨rfl, rfl⟩, rfl⟩
  refine Lnt (Gsr (Las rfl rfl (Lnt (Gs.ret (Gr ?_)))))
  exact Gs.fin1 Tryz.results69 rfl _ (⟨by rw [hA], by rw [hA]⟩) (by repeat constructor)
 have hz4 : ¬ xp.z < 400 := fun h => by have := of_decide_eq_false hc2; exact this (Int.ofNat_lt.2 h)
 refine Gs.skip (Gn (Gsr (Lmv rfl rfl (Lmv rfl rfl (Lq rfl (pu_build bd_106 (by repeat constructor) rfl) ?_)))))
 refine La rfl (asC (segLay_spec (e := ⟨1, ⟨va, v, vc⟩, ⟨wa, w, wc⟩, Rec.zero⟩) ⟨hV, hW⟩ hR hbm)) ?_
 rintro _ _ ⟨_, ⟨ka, kc, rfl, rfl⟩, rfl⟩
 refine Lmv rfl rfl (Lq rfl (pu_extract rfl rfl) (Lq rfl (pu_extract rfl rfl) (Las rfl rfl (Las rfl rfl (Lnt (Gs.seq (Gs.regD mixed (by kernel_rfl) (Rmv 0 rfl (by kernel_rfl) rfl (Rq 1 rfl (by kernel_rfl) (by first | exact pu_nil rfl | exact pu_nilF rfl) ?_)))))))))
 refine Rq 2 rfl (by kernel_rfl) (pu_fa fa_125_0 rfl) (Rr 3 rfl (by kernel_rfl) (rd_ld na_40 rfl (Rdc.cl1 (by repeat constructor) rfl)) ?_)
 refine Rq 4 rfl (by kernel_rfl) (pu_fa fa_127_0 rfl) (Rr 5 rfl (by kernel_rfl) (rd_ld na_9 rfl (Rdc.cl1 (by repeat constructor) rfl)) ?_)
 refine Rg.one (by kernel_rfl) (Stp.acK 6 rfl rfl (by kernel_rfl) trivial (ac_lit encC_9 ([xp.n]) et_22 ek_9 rfl (by repeat constructor) rfl rfl (by decide)) (by rintro _ _ ⟨a106, rfl, rfl⟩ w s; first | exact s.drop | exact s | exact Ent.sat (by repeat constructor) s) ?_)
 rintro _ _ ⟨a106, rfl, rfl⟩
 refine Rg.one (by kernel_rfl) (Stp.ac 7 rfl rfl (by kernel_rfl) trivial (asC (sync_spec (S := sl 9 1 strC (some ⟨a106, 0, none⟩) 1 [xp.n]) d most D Srd.own (by simp)))  ?_)
 rintro _ _ ⟨_, ⟨rfl, rfl⟩, rfl⟩
 rw [hs, if_pos rfl]
 refine Rg.end (by kernel_rfl) (Gn (Gs.seq (Gs.lgClose (b := b) (d := d) (n := n) (made := made) (ps := U ++ [xp]) (P := V ++ [(⟨xp, xa, xc⟩ : PaV)]) (a := some ⟨pb, po, none⟩) (c := pc) (by repeat constructor) rfl hP ?_)))
 refine Gs.reg (Lmv rfl rfl (La rfl (asC (call_spec (d := d) (n := n) (made := made) (ps := U ++ [xp]) hm)) ?_))
 rintro _ _ ⟨_, ⟨rfl, rfl⟩, rfl⟩
 refine Las rfl rfl (Lnt (Gs.seq (Gs.seq (Gs.lgOpen (made := made + 1) (ps := U ++ [xp]) (b := b) (d := d) (n := n) (by repeat constructor) fun pa2 pc2 P2 hP2 => ?_))))
 refine Gs.takes (As := [sl 5 1 byteC ka kc (layE (baseE v w)), sl 5 1 byteC la lc (layE e.p)]) (by repeat constructor) (Gs.toTwo ?_)
 obtain ⟨D1, hD1⟩ : ∃ D1, D1 = syncL D [xp.n] := ⟨_, rfl⟩
 rw [← hD1]
 have hD1l : D1.length ≤ 900 := by rw [hD1]; simpa [syncL] using hD
 have hcs : ∀ q ∈ ([⟨ka, layE (baseE v w), kc⟩, ⟨la, layE e.p, lc⟩] : List (SlV UInt8)), Srd (two (sl 5 1 byteC ka kc (layE (baseE v w))) (sl 5 1 byteC la lc (layE e.p))) 1 byteC q.a q.xs := fun q hq => by
   simp only [List.mem_cons, List.not_mem_nil, or_false] at hq
   rcases hq with rfl | rfl
   · exact Srd.two1 Srd.own
   · exact Srd.two2 Srd.own
 have hfl : flat [⟨ka, layE (baseE v w), kc⟩, ⟨la, layE e.p, lc⟩] = layE (baseE v w) ++ layE e.p := by simp [flat]
 have hfl2 : (layE (baseE v w) ++ layE e.p).length ≤ 1000 := by rw [List.length_append]; omega
 have hfl3 : 0 < (layE (baseE v w) ++ layE e.p).length := by rw [List.length_append]; omega
 refine Gs.regD mixed (by kernel_rfl) (Rmv 0 rfl (by kernel_rfl) rfl (Rq 1 rfl (by kernel_rfl) (by first | exact pu_nil rfl | exact pu_nilF rfl) ?_))
 refine Rq 2 rfl (by kernel_rfl) (pu_fa fa_125_0 rfl) (Rr 3 rfl (by kernel_rfl) (rd_ld na_40 rfl (Rdc.cl1 (by repeat constructor) rfl)) ?_)
 refine Rmv 4 rfl (by kernel_rfl) rfl (Rmv 5 rfl (by kernel_rfl) rfl (Rmv 6 rfl (by kernel_rfl) rfl (Rg.one (by kernel_rfl) (Stp.acK 7 rfl rfl (by kernel_rfl) trivial (ac_lit encC_83 ([⟨ka, layE (baseE v w), kc⟩, ⟨la, layE e.p, lc⟩]) et_221 ek_83 rfl (by repeat constructor) rfl rfl (by decide)) (by rintro _ _ ⟨a117, rfl, rfl⟩ w s; first | exact s.drop | exact s | exact Ent.sat (by repeat constructor) s) ?_))))
 rintro _ _ ⟨a117, rfl, rfl⟩
 refine Rg.one (by kernel_rfl) (Stp.acR 8 [3] rfl rfl (by kernel_rfl) trivial (asC (concat_spec (U := sl 83 1 slC (some ⟨a117, 0, none⟩) 2 [⟨ka, layE (baseE v w), kc⟩, ⟨la, layE e.p, lc⟩]) (S := two (sl 5 1 byteC ka kc (layE (baseE v w))) (sl 5 1 byteC la lc (layE e.p))) Srd.own hcs (by simp) (by rw [hfl]; omega) (by rw [hfl]; exact hfl3))) (by rintro _ _ ⟨_, ⟨fa, fc, rfl, rfl⟩, rfl⟩; exact (Reads.cons rfl rfl rfl trivial rfl (rd_ld na_40 rfl (Rdc.cl1 (by repeat constructor) rfl)) Reads.nil)) ?_)
 rintro _ _ ⟨_, ⟨fa, fc, rfl, rfl⟩, rfl⟩
 rw [hfl]
 refine Rg.one (by kernel_rfl) (Stp.ac 9 rfl rfl (by kernel_rfl) trivial (asC (append_spec (S := sl 5 1 byteC fa fc (layE (baseE v w) ++ layE e.p)) d most D1 (nameK (made + 1)) hnm.1 (by rw [name_size]; decide) Srd.own (by omega) (by omega)))  ?_)
 rintro _ _ ⟨_, ⟨rfl, rfl⟩, rfl⟩
 refine Rq 10 rfl (by kernel_rfl) (pu_assign rfl) (Rg.end (by kernel_rfl) (Gn (Gsr (Lmv rfl rfl (Lq rfl (pu_ne rfl rfl) (Lnt (Gs.cond rfl (fun hc4 => ?_) (fun hc4 => ?_))))))))
 ·
  have hne : appE most D1 (nameK (made + 1)) (layE (baseE v w) ++ layE e.p) ≠ 0 := of_decide_eq_true hc4
  have hA : A = ⟨appE most D1 (nameK (made + 1)) (layE (baseE v w) ++ layE e.p), D1, ⟨made + 1, U ++ [xp]⟩⟩ := by rw [hA0, hD1]; unfold writeL; rw [if_neg (by rw [hw]; decide), if_neg hz4, if_neg (by rw [← hD1]; exact hne)]
  have hAL : appL most D1 (nameK (made + 1)) (layE (baseE v w) ++ layE e.p) = D1 := by unfold appL; rw [if_neg hne]
  rw [hAL]
  refine Gsr (Lmv rfl rfl (Las rfl rfl (Lnt (Gs.ret (Gr (Gs.lgClose (b := b) (d := d) (n := n) (made := made + 1) (ps := U ++ [xp]) (P := P2) (a := pa2) (c := pc2) (by repeat constructor) rfl hP2 ?_))))))
  exact Gs.fin1 Tryz.results69 rfl _ (⟨by rw [hA], by rw [hA]⟩) (by repeat constructor)
 have heq : appE most D1 (nameK (made + 1)) (layE (baseE v w) ++ layE e.p) = 0 := Decidable.not_not.1 (of_decide_eq_false hc4)
 have hA : A = ⟨0, appL most D1 (nameK (made + 1)) (layE (baseE v w) ++ layE e.p), ⟨made + 1, (U ++ [xp]) ++ [noteP ⟨nameK (made + 1), (layE (baseE v w)).length, zeros n⟩ e.p (layE e.p).length]⟩⟩ := by rw [hA0, hD1]; unfold writeL; rw [if_neg (by rw [hw]; decide), if_neg hz4, if_pos (by rw [← hD1]; exact heq)]
 refine Gs.skip (Gn (Gs.seq (Gs.lgClose (b := b) (d := d) (n := n) (made := made + 1) (ps := U ++ [xp]) (P := P2) (a := pa2) (c := pc2) (by repeat constructor) rfl hP2 ?_)))
 refine Gs.reg (Lmv rfl rfl (Lmv rfl rfl (Lmv rfl rfl (Lq rfl (pu_len Tryz.underlying83 rfl) (La rfl (asC (begin_spec (d := d) (made := made + 1) (ps := U ++ [xp]) (nm := nameK (made + 1)) (z := (layE (baseE v w)).length) h1 h8 (by rw [List.length_append, List.length_cons, List.length_nil]; omega))) ?_)))))
 rintro _ _ ⟨_, ⟨rfl, rfl⟩, rfl⟩
 refine Lnt (Gsr (Lmv rfl rfl (Lr rfl (rd_lda ag_106 rfl (Rdc.cl 8 (by repeat constructor) rfl) rfl) ?_)))
 refine Lmv rfl rfl (Lq rfl (pu_len Tryz.underlying83 rfl) (La rfl (asC (note_spec (d := d) (n := n) (made := made + 1) (U := U ++ [xp]) (p := ⟨nameK (made + 1), (layE (baseE v w)).length, zeros n⟩) (e := e) (z := (layE e.p).length) (by dsimp only; omega) (by rw [List.length_append, List.length_cons, List.length_nil]; omega) (fun hk => by have := rec_in hq1 hk; refine ⟨this.1, ?_⟩; show e.r.o < ((zeros n).length : Int); unfold zeros; rw [List.length_replicate]; have h2 : e.r.o < n := this.2; omega))) ?_))
 rintro _ _ ⟨_, ⟨rfl, rfl⟩, rfl⟩
 refine Lnt (Gsr (Las rfl rfl (Lnt (Gs.ret ?_))))
 exact Gs.fin1 Tryz.results69 rfl _ (⟨by rw [hA], by rw [hA]⟩) (by repeat constructor)
end Go.Proofs.YtflfhpokmidnmaaGreatDoor
namespace Go.Proofs.YtflfhpokmidnmaaGreatDoor
open Go Go.Sl Go.Gv Go.Dv Go.Bst
set_option maxRecDepth 100000
theorem take_names {P : List PaV} {i : Nat} {x : PaV} (h : P[i]? = some x) : (P.take (i + 1)).map (fun x => x.p.n) = (P.take i).map (fun x => x.p.n) ++ [x.p.n] := by
 rw [List.take_add_one, h]; simp
theorem lgSync_spec {b d : Nat} {n most : Int} {made : Nat} {ps : List Pa} {D : List Fl} (hps : ps.length ≤ 1000) :
   Ct Tryz.prog 40 [ptr b] [lgr b d n ⟨made, ps⟩, drv d most D]
     (fun v hs => v = int (syncE D (ps.map Pa.n)) ∧ hs = [lgr b d n ⟨made, ps⟩, drv d most (if syncE D (ps.map Pa.n) = 0 then syncL D (ps.map Pa.n) else D)]) := by
 refine Cti Tryz.func40 (by kernel_rfl) 29 Tryz.ntmps40 rfl rfl fun w0 R => ?_
 refine Gs.lgOpen (b := b) (d := d) (n := n) (made := made) (ps := ps) (by repeat constructor) fun pa pc P hP => ?_
 have hPl : P.length = ps.length := by rw [← hP, List.length_map]
 have hnm : P.map (fun x => x.p.n) = ps.map Pa.n := by rw [← hP, List.map_map]; rfl
 refine Gs.slAddr (xs := P) (SlH.own (E := 127) (enc := paC) (by repeat constructor)) fun pb po hpa => ?_
 refine Gsr (Las rfl rfl (Lnt (Gs.seq (Gsr (Lmv rfl rfl (Lq rfl (pu_eqN Tryz.underlying72 rfl rfl) (Lnt (Gs.cond_f rfl (Gs.skip (Gn (Gsr ?_)))))))))))
 refine Las rfl rfl (Lnt (Gs.seq (Gsr (Lmv rfl rfl (Lq rfl (by first | exact pu_nil rfl | exact pu_nilF rfl) ?_)))))
 refine Lq rfl (pu_fa fa_125_3 rfl) (Lr rfl (rd_ld na_123 rfl (Rdc.cl1 (by repeat constructor) rfl)) ?_)
 refine Lq rfl (pu_len Tryz.underlying123 rfl) (Lmv rfl rfl (Lnil (Gs.slNil 9 1 strC (Gn (Gs.block (Gs.loop1 (fun s : Nat × Option Addr × Nat => s.1 ≤ P.length) (fun s => [(0, ptr b), (3, .slice s.2.1 ((P.take s.1).map fun x => x.p.n).length s.2.2), (11, .slice pa P.length pc), (12, int P.length), (13, int s.1)]) (fun s => [cl b 125 (lgC d n made pa P.length pc), sl 127 3 paC pa pc P, big (P.map topO), sl 9 1 strC s.2.1 s.2.2 ((P.take s.1).map fun x => x.p.n), drv d most D] ++ R) (fun s => P.length - s.1) (0, none, 0) (Nat.zero_le _) (by repeat constructor) (by repeat constructor) (fun s hs => ?_)))))))
 obtain ⟨i, na, nc⟩ := s
 dsimp only at hs ⊢
 have hnl : ((P.take i).map fun x => x.p.n).length ≤ 1000 := by rw [List.length_map, List.length_take]; omega
 refine Gsr (Lq rfl (pu_lt rfl rfl) (Lnt (Gs.seq (Gs.cond rfl (fun hc1 => ?_) (fun hc1 => ?_)))))
 ·
  have hlt : i < P.length := by have := of_decide_eq_true hc1; omega
  obtain ⟨x, hx⟩ : ∃ x, P[i]? = some x := ⟨P[i], by simp [hlt]⟩
  obtain rfl := hpa (by rintro rfl; simp at hlt)
  refine Gs.skip (Gn (Gs.seq (Gs.block (Gsr (Lq rfl (pu_ia se_123 rfl rfl (by omega) (by omega)) (Lr rfl (rd_lda ag_127 rfl (Rdc.el0 (SlH.own (xs := P) (E := 127) (enc := paC) (sz := 3) (by repeat constructor)) hx rfl rfl) rfl) ?_))))))
  refine La rfl (ac_alloc zv_127 rfl) ?_
  rintro _ _ ⟨b5, rfl, rfl⟩
  refine Lac0 rfl trivial (ac_st sz_127 rfl rfl (by repeat constructor) rfl rfl rfl rfl) ?_
  rintro _ _ rfl
  refine Lnt (Gs.reg (Lmv rfl rfl (Lq rfl (pu_fa fa_127_0 rfl) (Lr rfl (rd_ld na_9 rfl (Rdc.cl1 (by repeat constructor) rfl)) ?_))))
  refine La rfl (ac_lit encC_9 ([x.p.n]) et_22 ek_9 rfl (by repeat constructor) rfl rfl (by decide)) ?_
  rintro _ _ ⟨a20, rfl, rfl⟩
  refine La rfl (ac_append (xs := (P.take i).map fun x => x.p.n) (ys := [x.p.n]) et_22 ek_9 rfl rfl (by repeat constructor) (SrcH.sl Tryz.underlying22 ek_9 (SlH.own (by repeat constructor))) (by first | omega | (simp; omega)) (by first | omega | (simp; omega))) ?_
  rintro _ _ ⟨a21, c21, rfl, rfl⟩
  rw [← take_names hx]
  refine Las rfl rfl (Lnil (Gs.blk_n (Gn (Gs.reg (Lq rfl (by first | exact pu_addI rfl rfl rfl (by omega) (by omega) | exact pu_add rfl rfl) ?_)))))
  refine Lmv rfl rfl (Lnt ?_)
  exact Ag (i + 1, a21, c21) (by show i + 1 ≤ P.length; omega) (by show P.length - (i + 1) < P.length - i; omega)
 have hge : i = P.length := by have := of_decide_eq_false hc1; omega
 rw [hge, List.take_length, hnm]
 refine Gs.exit (Gx (Gx (Gs.blk_hit (Gn (Gsr (Lmv rfl rfl (Lq rfl (by first | exact pu_nil rfl | exact pu_nilF rfl) ?_)))))))
 refine Lq rfl (pu_fa fa_125_0 rfl) (Lr rfl (rd_ld na_40 rfl (Rdc.cl1 (by repeat constructor) rfl)) ?_)
 refine Lmv rfl rfl (La rfl (asC (sync_spec (S := sl 9 1 strC na nc (ps.map Pa.n)) d most D Srd.own (by rw [List.length_map]; omega))) ?_)
 rintro _ _ ⟨_, ⟨rfl, rfl⟩, rfl⟩
 refine Las rfl rfl (Lnt (Gs.ret (Gs.lgClose (b := b) (d := d) (n := n) (made := made) (ps := ps) (P := P) (a := pa) (c := pc) (by repeat constructor) rfl hP ?_)))
 exact Gs.fin1 Tryz.results40 rfl _ (⟨rfl, rfl⟩) (by repeat constructor)
end Go.Proofs.YtflfhpokmidnmaaGreatDoor
namespace Go.Sl
open Go
theorem sl_tail {α : Type} {E sz : Nat} {enc : α → List Value} {a : Option Addr} {c : Nat} {x : α} {xs : List α} : ∀ h, sl E sz enc a c (x :: xs) h → sl E sz enc (suba a 1 c sz) (c - 1) xs h := fun h y => by
 rcases y with ⟨-, e, -⟩ | ⟨b, off, cells, rfl, hp, h1, h2, h3⟩
 · cases e
 · rw [List.length_cons] at h1
   by_cases hc : c = 1
   · subst hc
     have hx : xs = [] := List.length_eq_zero_iff.1 (by omega)
     subst hx
     refine .inr ⟨b, off, cells, by simp [suba], hp, Nat.le_refl _, by simp; omega, fun i y hi => by cases hi⟩
   · refine .inr ⟨b, off + 1 * sz, cells, suba_some hc, hp, by omega, ?_, fun i y hi j v hj => ?_⟩
     · have : (c - 1) * sz + 1 * sz = c * sz := by rw [← Nat.add_mul, Nat.sub_add_cancel (by omega)]
       omega
     · have := h3 (i + 1) y (by simpa using hi) j v hj
       rw [show off + 1 * sz + (i * sz + j) = off + ((i + 1) * sz + j) by rw [Nat.add_mul]; omega]; exact this
section
variable {w0 : World} {n : Nat} {env : Env} {H H' : List HProp} {X : Act → World → Prop}
theorem Gs.slTail {α : Type} {E sz : Nat} {enc : α → List Value} {a : Option Addr} {c : Nat} {x : α} {xs : List α} (t : Take (sl E sz enc a c (x :: xs)) H H') (g : Gs w0 n env (sl E sz enc (suba a 1 c sz) (c - 1) xs :: H') X) : Gs w0 n env H X :=
 fun ac w e s => g ac w e ((s.take t).ent sl_tail)
theorem Gs.twoOpen {A B : HProp} (t : Take (Sl.two A B) H H') (g : Gs w0 n env (A :: B :: H') X) : Gs w0 n env H X := fun ac w e s => g ac w e (Sat.two.1 (s.take t))
end
end Go.Sl
namespace Go.Proofs.YtflfhpokmidnmaaGreatDoor
open Go Go.Sl Go.Gv Go.Dv Go.Bst
set_option maxRecDepth 100000
def overAt (t w : List Int) (o : Nat) : Bool := decide (0 < t.getD o 0) && (decide (w.length ≤ o) || decide (w.getD o 0 < t.getD o 0))
def goneB (t w : List Int) : Bool := (List.range t.length).all fun o => !overAt t w o
theorem gone_not {t w : List Int} {o : Nat} (ho : o < t.length) (h : overAt t w o = true) : goneB t w = false := by
 unfold goneB; rw [List.all_eq_false]; exact ⟨o, by simpa using ho, by simp [h]⟩
theorem gone_spec {S U : HProp} {nm : ByteArray} {z : Int} {a b : Option Addr} {c d : Nat} {t w : List Int} (hS : Srd S 1 intC a t) (hU : Srd U 1 intC b w) (hl : t.length ≤ 1000) :
   Ct Tryz.prog 75 [.agg #[.string nm, int z, .slice a t.length c], .slice b w.length d] [S, U] (fun v hs => v = .bool (goneB t w) ∧ hs = [S, U]) := by
 refine Cti Tryz.func75 (by kernel_rfl) 32 Tryz.ntmps75 rfl rfl fun w0 R => ?_
 refine Gs.slAddr (hS.h (by repeat constructor)) fun ab ao ha => ?_
 refine Gs.slAddr (hU.h (by repeat constructor)) fun ub uo hu => ?_
 refine Gsr (La rfl (ac_box rfl rfl) ?_)
 rintro _ _ ⟨b2, rfl, rfl⟩
 refine Las rfl rfl (Lnt (Gs.seq (Gsr (Lq rfl (pu_fa fa_127_2 rfl) (Lr rfl (rd_ld na_30 rfl (Rdc.cl1 (by repeat constructor) rfl)) ?_)))))
 refine Lq rfl (pu_len Tryz.underlying30 rfl) (Lmv rfl rfl (Lnt (Gs.block (Gs.loop1 (fun i : Nat => i ≤ t.length ∧ ((List.range i).all fun o => !overAt t w o) = true) (fun i => [(1, .slice b w.length d), (8, .slice a t.length c), (9, int t.length), (10, int i)]) (fun i => [S, U] ++ R) (fun i => t.length - i) 0 (⟨Nat.zero_le _, rfl⟩) (by repeat constructor) (by repeat constructor) (fun i ⟨hi, hall⟩ => ?_)))))
 refine Gsr (Lq rfl (pu_lt rfl rfl) (Lnt (Gs.seq (Gs.cond rfl (fun hc0 => ?_) (fun hc0 => ?_)))))
 ·
  have hlt : i < t.length := by have := of_decide_eq_true hc0; omega
  obtain ⟨x, hx⟩ : ∃ x, t[i]? = some x := ⟨t[i], by simp [hlt]⟩
  obtain rfl := ha (by rintro rfl; simp at hlt)
  have hgx : t.getD i 0 = x := by rw [List.getD_eq_getElem?_getD, hx]; rfl
  have hsucc : overAt t w i = false → ((List.range (i + 1)).all fun o => !overAt t w o) = true := fun h => by rw [List.range_succ, List.all_append, hall]; simp [h]
  refine Gs.skip (Gn (Gs.seq (Gs.block (Gsr (Lmv rfl rfl (Lq rfl (pu_ia se_30 rfl rfl (by omega) (by omega)) (Lr rfl (rd_ld na_3 rfl (Rdc.el0 (hS.h (by repeat constructor)) hx rfl rfl)) ?_)))))))
  refine Las rfl rfl (Las rfl rfl (Lnt (Gsr (Lmv rfl rfl (Lq rfl (pu_gt rfl rfl) (LpuB rfl rfl trivial (pu_move rfl) (fun hg2 => ?_) (fun hg2 => ?_)))))))
  ·
   have h0 : decide (0 < t.getD i 0) = true := by rw [hgx]; exact hg2
   refine Lpu rfl rfl ⟨_, rfl, rfl⟩ (pu_move rfl) (Lpu rfl rfl ⟨_, rfl, rfl⟩ (pu_move rfl) (Lpu rfl rfl ⟨_, rfl, rfl⟩ (pu_len Tryz.underlying30 rfl) (Lpu rfl rfl ⟨_, rfl, rfl⟩ (pu_ge rfl rfl) (LpuB rfl rfl ⟨_, rfl, rfl⟩ (pu_move rfl) (fun hg7 => ?_) (fun hg7 => ?_)))))
   ·
    have hov : overAt t w i = true := by unfold overAt; rw [h0, decide_eq_true (by have := of_decide_eq_true hg7; omega : w.length ≤ i)]; rfl
    refine Lof rfl (Lof rfl (Lof rfl (Lof rfl (Lof rfl (Lof rfl (Lpu rfl rfl ⟨_, rfl, rfl⟩ (by first | exact pu_pick_t rfl rfl | exact pu_pick_f rfl rfl) ?_))))))
    refine Lpk rfl rfl rfl (Lnt (Gs.cond_t rfl (Gsr (Las rfl rfl (Lnt (Gs.ret (Gs.blk_r (Gr (Gr (Gs.blk_r (Gr ?_)))))))))))
    exact Gs.fin1 Tryz.results75 rfl _ (⟨by rw [gone_not hlt hov], rfl⟩) (by repeat constructor)
   have hlw : i < w.length := by have := of_decide_eq_false hg7; omega
   obtain ⟨y, hy⟩ : ∃ x, w[i]? = some x := ⟨w[i], by simp [hlw]⟩
   obtain rfl := hu (by rintro rfl; simp at hlw)
   have hgy : w.getD i 0 = y := by rw [List.getD_eq_getElem?_getD, hy]; rfl
   refine Lpu rfl rfl ⟨_, rfl, rfl⟩ (pu_move rfl) (Lpu rfl rfl ⟨_, rfl, rfl⟩ (pu_move rfl) (Lpu rfl rfl ⟨_, rfl, rfl⟩ (pu_move rfl) (Lpu rfl rfl ⟨_, rfl, rfl⟩ (pu_ia se_30 rfl rfl (by omega) (by omega)) (Lrd rfl rfl ⟨_, rfl, rfl⟩ (rd_ld na_3 rfl (Rdc.el0 (hU.h (by repeat constructor)) hy rfl rfl)) ?_))))
   refine Lpu rfl rfl ⟨_, rfl, rfl⟩ (pu_gt rfl rfl) (Lpu rfl rfl ⟨_, rfl, rfl⟩ (by first | exact pu_pick_t rfl rfl | exact pu_pick_f rfl rfl) ?_)
   refine Lpk rfl rfl rfl (Lnt (Gs.cond rfl (fun hc1 => ?_) (fun hc1 => ?_)))
   ·
    have hov : overAt t w i = true := by unfold overAt; rw [h0, hgx, hgy, hc1, Bool.or_true]; rfl
    refine Gsr (Las rfl rfl (Lnt (Gs.ret (Gs.blk_r (Gr (Gr (Gs.blk_r (Gr ?_))))))))
    exact Gs.fin1 Tryz.results75 rfl _ (⟨by rw [gone_not hlt hov], rfl⟩) (by repeat constructor)
   have hov : overAt t w i = false := by unfold overAt; rw [h0, hgx, hgy, hc1, decide_eq_false (by omega : ¬ w.length ≤ i)]; rfl
   refine Gs.skip (Gs.blk_n (Gn (Gs.reg (Lq rfl (by first | exact pu_addI rfl rfl rfl (by omega) (by omega) | exact pu_add rfl rfl) ?_))))
   refine Lmv rfl rfl (Lnt ?_)
   exact Ag (i + 1) ⟨by omega, hsucc hov⟩ (by omega)
  have hov : overAt t w i = false := by unfold overAt; rw [hgx, hg2]; rfl
  refine Lof rfl (Lof rfl (Lof rfl (Lof rfl (Lof rfl (LoffU rfl rfl rfl rfl rfl (LoffU rfl rfl rfl rfl rfl (LoffU rfl rfl rfl rfl rfl (LoffU rfl rfl rfl rfl rfl (LoffU rfl rfl rfl rfl rfl (LoffU rfl rfl rfl rfl rfl (Lof rfl ?_)))))))))))
  refine Lpk rfl rfl rfl (Lnt (Gs.cond_f rfl (Gs.skip (Gs.blk_n (Gn (Gs.reg (Lq rfl (by first | exact pu_addI rfl rfl rfl (by omega) (by omega) | exact pu_add rfl rfl) ?_)))))))
  refine Lmv rfl rfl (Lnt ?_)
  exact Ag (i + 1) ⟨by omega, hsucc hov⟩ (by omega)
 have hge : i = t.length := by have := of_decide_eq_false hc0; omega
 have hfin : goneB t w = true := by rw [hge] at hall; exact hall
 refine Gs.exit (Gx (Gx (Gs.blk_hit (Gn (Gsr (Las rfl rfl (Lnt (Gs.ret ?_))))))))
 exact Gs.fin1 Tryz.results75 rfl _ (⟨by rw [hfin], rfl⟩) (by repeat constructor)
abbrev lastF (q b d : Nat) (n : Int) (made : Nat) (a : Option Addr) (l c : Nat) (most : Int) (D : List Fl) : HProp := two (cl q 72 [ptr b]) (two (cl b 125 (lgC d n made a l c)) (drv d most D))
theorem lastsF_spec {q b d : Nat} {n : Int} {made : Nat} {a : Option Addr} {l c : Nat} {most : Int} {D : List Fl} (x : PaV) :
   Ct Tryz.prog 117 ([] ++ [.agg (paC x).toArray] ++ [ptr q]) [lastF q b d n made a l c most D] (fun v hs => v = .bool (decide (0 < looseD D x.p.n)) ∧ hs = [lastF q b d n made a l c most D]) := by
 refine Cti Tryz.func117 (by kernel_rfl) 12 Tryz.ntmps117 rfl rfl fun w0 R => ?_
 refine Gs.twoOpen (A := cl q 72 [ptr b]) (B := two (cl b 125 (lgC d n made a l c)) (drv d most D)) (by repeat constructor) ?_
 refine Gs.twoOpen (A := cl b 125 (lgC d n made a l c)) (B := drv d most D) (by repeat constructor) ?_
 refine Gsr (La rfl (ac_box rfl rfl) ?_)
 rintro _ _ ⟨b2, rfl, rfl⟩
 refine Las rfl rfl (Lnt (Gs.seq (Gs.regD mixed (by kernel_rfl) (Rr 0 rfl (by kernel_rfl) (rd_ld na_72 rfl (Rdc.cl1 (by repeat constructor) rfl)) ?_))))
 refine Rq 1 rfl (by kernel_rfl) (by first | exact pu_nil rfl | exact pu_nilF rfl) ?_
 refine Rq 2 rfl (by kernel_rfl) (pu_fa fa_125_0 rfl) (Rr 3 rfl (by kernel_rfl) (rd_ld na_40 rfl (Rdc.cl1 (by repeat constructor) rfl)) ?_)
 refine Rq 4 rfl (by kernel_rfl) (pu_fa fa_127_0 rfl) (Rr 5 rfl (by kernel_rfl) (rd_ld na_9 rfl (Rdc.cl1 (by repeat constructor) rfl)) ?_)
 refine Rg.one (by kernel_rfl) (Stp.ac 6 rfl rfl (by kernel_rfl) trivial (asC (loose_spec d most D x.p.n))  ?_)
 rintro _ _ ⟨_, ⟨rfl, rfl⟩, rfl⟩
 refine Rq 7 rfl (by kernel_rfl) (pu_gt rfl rfl) (Rq 8 rfl (by kernel_rfl) (pu_assign rfl) (Rg.end (by kernel_rfl) (Gn (Gs.ret (Gs.takes (As := [cl b 125 (lgC d n made a l c), drv d most D]) (by repeat constructor) (Gs.toTwo ?_))))))
 refine Gs.takes (As := [cl q 72 [ptr b], two (cl b 125 (lgC d n made a l c)) (drv d most D)]) (by repeat constructor) (Gs.toTwo ?_)
 exact Gs.fin1 Tryz.results117 rfl _ (⟨rfl, rfl⟩) (by repeat constructor)
theorem indexP_specL {S F : HProp} {a : Option Addr} {c q : Nat} {P : List PaV} (pred : PaV → Bool) (hS : Srd S 3 paC a P) (hl : P.length ≤ 1000)
   (hf : ∀ x : PaV, Ct Tryz.prog 117 ([] ++ [.agg (paC x).toArray] ++ [ptr q]) [F] (fun v hs => v = .bool (pred x) ∧ hs = [F])) :
   Ct Tryz.prog 144 [.slice a P.length c, .func (.func 117) #[] #[ptr q]] [S, F] (fun v hs => (∃ z : Int, v = int z ∧ decide (0 ≤ z) = P.any pred) ∧ hs = [S, F]) := by
 refine Cti Tryz.func144 (by kernel_rfl) 19 Tryz.ntmps144 rfl rfl fun w0 R => ?_
 refine Gs.slAddr (hS.h (by repeat constructor)) fun ab ao ha => ?_
 refine Gsr (Las rfl rfl (Lnt (Gs.seq (Gsr (Lmv rfl rfl (Lq rfl (pu_len Tryz.underlying123 rfl) (Lmv rfl rfl (Lnt (Gs.block (Gs.loop1 (fun i : Nat => i ≤ P.length ∧ (P.take i).any pred = false) (fun i => [(0, .slice a P.length c), (1, .func (.func 117) #[] #[ptr q]), (7, int P.length), (8, int i)]) (fun i => [S, F] ++ R) (fun i => P.length - i) 0 (⟨Nat.zero_le _, rfl⟩) (by repeat constructor) (by repeat constructor) (fun i ⟨hi, hno⟩ => ?_)))))))))))
 refine Gsr (Lq rfl (pu_lt rfl rfl) (Lnt (Gs.seq (Gs.cond rfl (fun hc0 => ?_) (fun hc0 => ?_)))))
 ·
  have hlt : i < P.length := by have := of_decide_eq_true hc0; omega
  obtain ⟨x, hx⟩ : ∃ x, P[i]? = some x := ⟨P[i], by simp [hlt]⟩
  obtain rfl := ha (by rintro rfl; simp at hlt)
  refine Gs.skip (Gn (Gs.seq (Gs.block (Gsr (Lmv rfl rfl (Las rfl rfl (Lnt (Gsr (Lmv rfl rfl (Lmv rfl rfl (Lmv rfl rfl ?_)))))))))))
  refine Lq rfl (pu_ia se_123 rfl rfl (by omega) (by omega)) (Lr rfl (rd_lda ag_127 rfl (Rdc.el0 (hS.h (by repeat constructor)) hx rfl rfl) rfl) ?_)
  refine La rfl (as_callV rfl (hf x) (by repeat constructor) (by repeat constructor)) ?_
  rintro _ _ ⟨_, ⟨rfl, rfl⟩, rfl⟩
  refine Lnt (Gs.cond rfl (fun hc1 => ?_) (fun hc1 => ?_))
  ·
   have hyes : P.any pred = true := by rw [List.any_eq_true]; exact ⟨x, List.mem_of_getElem? hx, hc1⟩
   refine Gsr (Lmv rfl rfl (Las rfl rfl (Lnt (Gs.ret (Gs.blk_r (Gr (Gr (Gs.blk_r (Gr ?_)))))))))
   exact Gs.fin1 Tryz.results144 rfl _ (⟨⟨_, rfl, by rw [hyes]; exact decide_eq_true (by omega)⟩, rfl⟩) (by repeat constructor)
  refine Gs.skip (Gs.blk_n (Gn (Gs.reg (Lq rfl (by first | exact pu_addI rfl rfl rfl (by omega) (by omega) | exact pu_add rfl rfl) ?_))))
  refine Lmv rfl rfl (Lnt ?_)
  exact Ag (i + 1) ⟨by omega, by rw [List.take_add_one, hx, List.any_append, hno]; simp [hc1]⟩ (by omega)
 have hge : i = P.length := by have := of_decide_eq_false hc0; omega
 have hno2 : P.any pred = false := by rw [hge, List.take_length] at hno; exact hno
 refine Gs.exit (Gx (Gx (Gs.blk_hit (Gn (Gsr (Las rfl rfl (Lnt (Gs.ret ?_))))))))
 exact Gs.fin1 Tryz.results144 rfl _ (⟨⟨_, rfl, by rw [hno2]; rfl⟩, rfl⟩) (by repeat constructor)
theorem containsP_spec {S F : HProp} {a : Option Addr} {c q : Nat} {P : List PaV} (pred : PaV → Bool) (hS : Srd S 3 paC a P) (hl : P.length ≤ 1000)
   (hf : ∀ x : PaV, Ct Tryz.prog 117 ([] ++ [.agg (paC x).toArray] ++ [ptr q]) [F] (fun v hs => v = .bool (pred x) ∧ hs = [F])) :
   Ct Tryz.prog 116 [.slice a P.length c, .func (.func 117) #[] #[ptr q]] [S, F] (fun v hs => v = .bool (P.any pred) ∧ hs = [S, F]) := by
 refine Cti Tryz.func116 (by kernel_rfl) 9 Tryz.ntmps116 rfl rfl fun w0 R => ?_
 refine Gsr (Las rfl rfl (Lnt (Gsr (Lmv rfl rfl (Lmv rfl rfl (La rfl (asC (indexP_specL pred hS hl hf)) ?_))))))
 rintro _ _ ⟨_, ⟨⟨z, rfl, hz⟩, rfl⟩, rfl⟩
 refine Lq rfl (pu_ge rfl rfl) (Las rfl rfl (Lnt (Gs.ret ?_)))
 exact Gs.fin1 Tryz.results116 rfl _ (⟨by rw [← hz], rfl⟩) (by repeat constructor)
def lastsB (D : List Fl) (ps : List Pa) : Bool := !((ps.drop 1).any fun p => decide (0 < looseD D p.n))
theorem lasts_spec {b d : Nat} {n most : Int} {made : Nat} {ps : List Pa} {D : List Fl} (h1 : 1 ≤ ps.length) (hps : ps.length ≤ 1000) :
   Ct Tryz.prog 76 [ptr b] [lgr b d n ⟨made, ps⟩, drv d most D] (fun v hs => v = .bool (lastsB D ps) ∧ hs = [lgr b d n ⟨made, ps⟩, drv d most D]) := by
 refine Cti Tryz.func76 (by kernel_rfl) 11 Tryz.ntmps76 rfl rfl fun w0 R => ?_
 refine Gs.lgOpen (b := b) (d := d) (n := n) (made := made) (ps := ps) (by repeat constructor) fun pa pc P hP => ?_
 have hPl : P.length = ps.length := by rw [← hP, List.length_map]
 have hany : (P.drop 1).any (fun x => decide (0 < looseD D x.p.n)) = (ps.drop 1).any fun p => decide (0 < looseD D p.n) := by
   rw [← hP, ← List.map_drop, List.any_map]; rfl
 have hdl : (P.drop 1).length = P.length - 1 := List.length_drop ..
 refine Gs.slLen (E := 127) (sz := 3) (enc := paC) (a := pa) (c := pc) (xs := P) (by repeat constructor) fun hpc => ?_
 refine Gsr (La rfl (ac_box rfl rfl) ?_)
 rintro _ _ ⟨q, rfl, rfl⟩
 refine Las rfl rfl (Lnt (Gsr (Lr rfl (rd_ld na_72 rfl (Rdc.cl1 (by repeat constructor) rfl)) ?_)))
 refine Lq rfl (by first | exact pu_nil rfl | exact pu_nilF rfl) ?_
 refine Lq rfl (pu_fa fa_125_3 rfl) (Lr rfl (rd_ld na_123 rfl (Rdc.cl1 (by repeat constructor) rfl)) ?_)
 refine Lq rfl (pu_sliceL et_123 rfl rfl (by omega) (by omega)) ?_
 rw [show (.slice (suba pa (1 : Int).toNat pc 3) (P.length - (1 : Int).toNat) (pc - (1 : Int).toNat) : Value) = .slice (suba pa 1 pc 3) (P.drop 1).length (pc - 1) by rw [hdl]; rfl]
 refine Lq rfl (pu_func (by repeat constructor) (by repeat constructor)) ?_
 refine Gs.takes (As := [cl b 125 (lgC d n made pa P.length pc), drv d most D]) (by repeat constructor) (Gs.toTwo ?_)
 refine Gs.takes (As := [cl q 72 [ptr b], two (cl b 125 (lgC d n made pa P.length pc)) (drv d most D)]) (by repeat constructor) (Gs.toTwo ?_)
 refine La rfl (asC (containsP_spec (S := sl 127 3 paC pa pc P) (F := lastF q b d n made pa P.length pc most D) (P := P.drop 1) (fun x => decide (0 < looseD D x.p.n)) (Srd.own.cutL 1 pc hpc) (by omega) (fun x => lastsF_spec x))) ?_
 rintro _ _ ⟨_, ⟨rfl, rfl⟩, rfl⟩
 refine Lq rfl (pu_not rfl) (Las rfl rfl (Lnt (Gs.ret (Gs.twoOpen (A := cl q 72 [ptr b]) (B := two (cl b 125 (lgC d n made pa P.length pc)) (drv d most D)) (by repeat constructor) ?_))))
 refine Gs.twoOpen (A := cl b 125 (lgC d n made pa P.length pc)) (B := drv d most D) (by repeat constructor) ?_
 refine Gs.lgClose (b := b) (d := d) (n := n) (made := made) (ps := ps) (P := P) (a := pa) (c := pc) (by repeat constructor) rfl hP ?_
 exact Gs.fin1 Tryz.results76 rfl _ (⟨by rw [hany]; rfl, rfl⟩) (by repeat constructor)
structure TOut where
 k : Nat
 ps : List Pa
 D : List Fl
def trimL (w : List Int) : List Pa → List Fl → Nat → TOut
 | p :: q :: ps, D, k => if goneB p.t w && lastsB D (p :: q :: ps) then trimL w (q :: ps) (del D p.n) (k + 1) else ⟨k, p :: q :: ps, D⟩
 | ps, D, k => ⟨k, ps, D⟩
end Go.Proofs.YtflfhpokmidnmaaGreatDoor
namespace Go.Proofs.YtflfhpokmidnmaaGreatDoor
open Go Go.Sl Go.Gv Go.Dv Go.Bst
set_option maxRecDepth 100000
theorem trimL_one (w : List Int) (p : Pa) (D : List Fl) (k : Nat) : trimL w [p] D k = ⟨k, [p], D⟩ := by rw [trimL]; intro _ _ _ h; cases h
theorem trimL_nil (w : List Int) (D : List Fl) (k : Nat) : trimL w [] D k = ⟨k, [], D⟩ := by rw [trimL]; intro _ _ _ h; cases h
theorem trimL_short {w : List Int} {ps : List Pa} (h : ps.length ≤ 1) (D : List Fl) (k : Nat) : trimL w ps D k = ⟨k, ps, D⟩ := by
 match ps, h with
 | [], _ => exact trimL_nil ..
 | [p], _ => exact trimL_one ..
 | _ :: _ :: _, h => simp at h
theorem trimL_stop {w : List Int} {p : Pa} {ps : List Pa} (D : List Fl) (k : Nat) (h : (goneB p.t w && lastsB D (p :: ps)) = false) : trimL w (p :: ps) D k = ⟨k, p :: ps, D⟩ := by
 cases ps with
 | nil => exact trimL_one ..
 | cons q ps => rw [trimL, if_neg (by rw [h]; decide)]
theorem trimL_go {w : List Int} {p : Pa} {ps : List Pa} (D : List Fl) (k : Nat) (hl : 1 ≤ ps.length) (h : (goneB p.t w && lastsB D (p :: ps)) = true) : trimL w (p :: ps) D k = trimL w ps (del D p.n) (k + 1) := by
 cases ps with
 | nil => simp at hl
 | cons q ps => rw [trimL, if_pos h]
theorem map_cons_inv {α β : Type} {f : α → β} {P : List α} {p : β} {ps : List β} (h : P.map f = p :: ps) : ∃ x Q, P = x :: Q ∧ f x = p ∧ Q.map f = ps := by
 obtain ⟨x, Q, h1, h2, h3⟩ := List.map_eq_cons_iff.1 h
 exact ⟨x, Q, h1, h2, h3⟩
theorem trim_spec {b d : Nat} {n most : Int} {made : Nat} {ps : List Pa} {D : List Fl} {U : HProp} {wa : Option Addr} {wc : Nat} {w : List Int} (hU : Srd U 1 intC wa w) (hps : ps.length ≤ 900) (ht : ∀ p ∈ ps, p.t.length ≤ 1000) :
   Ct Tryz.prog 41 [ptr b, .slice wa w.length wc] [lgr b d n ⟨made, ps⟩, drv d most D, U]
     (fun v hs => v = int ((trimL w ps D 0).k : Nat) ∧ hs = [lgr b d n ⟨made, (trimL w ps D 0).ps⟩, drv d most (trimL w ps D 0).D, U]) := by
 obtain ⟨A, hA⟩ : ∃ A, A = trimL w ps D 0 := ⟨_, rfl⟩
 rw [← hA]
 refine Cti Tryz.func41 (by kernel_rfl) 53 Tryz.ntmps41 rfl rfl fun w0 R => ?_
 refine Gsr (Las rfl rfl (Lnt (Gsr (Las rfl rfl (Lnt (Gs.seq (Gs.block (Gs.loop1 (fun s : Nat × List Pa × List Fl => trimL w s.2.1 s.2.2 s.1 = A ∧ s.1 + s.2.1.length ≤ 900 ∧ ∀ p ∈ s.2.1, p.t.length ≤ 1000) (fun s => [(0, ptr b), (1, .slice wa w.length wc), (5, int s.1)]) (fun s => [lgr b d n ⟨made, s.2.1⟩, drv d most s.2.2, U] ++ R) (fun s => s.2.1.length) (0, ps, D) (⟨hA.symm, by show 0 + ps.length ≤ 900; omega, ht⟩) (by repeat constructor) (by repeat constructor) (fun s hs => ?_)))))))))
 obtain ⟨k, qs, E⟩ := s
 obtain ⟨hst, hkl, htq⟩ := hs
 dsimp only at hst hkl htq ⊢
 refine Gs.lgOpen (b := b) (d := d) (n := n) (made := made) (ps := qs) (by repeat constructor) fun pa pc P hP => ?_
 have hPl : P.length = qs.length := by rw [← hP, List.length_map]
 refine Gs.seq (Gsr (Lmv rfl rfl (Lq rfl (pu_neN Tryz.underlying72 rfl rfl) (LpuBt rfl rfl trivial (pu_move rfl) rfl (Lpu rfl rfl ⟨_, rfl, rfl⟩ (pu_move rfl) (Lpu rfl rfl ⟨_, rfl, rfl⟩ (by first | exact pu_nil rfl | exact pu_nilF rfl) ?_))))))
 refine Lpu rfl rfl ⟨_, rfl, rfl⟩ (pu_fa fa_125_3 rfl) (Lrd rfl rfl ⟨_, rfl, rfl⟩ (rd_ld na_123 rfl (Rdc.cl1 (by repeat constructor) rfl)) ?_)
 refine Lpu rfl rfl ⟨_, rfl, rfl⟩ (pu_len Tryz.underlying123 rfl) (Lpu rfl rfl ⟨_, rfl, rfl⟩ (pu_gt rfl rfl) (Lpk rfl rfl rfl (LpuB rfl rfl trivial (pu_move rfl) (fun hg10 => ?_) (fun hg10 => ?_))))
 ·
  have hl2 : 1 < qs.length := by have := of_decide_eq_true hg10; omega
  obtain ⟨p, qs', hq⟩ : ∃ p qs', qs = p :: qs' := by
    cases qs with
    | nil => simp at hl2
    | cons p qs' => exact ⟨p, qs', rfl⟩
  subst hq
  obtain ⟨x, P', rfl, hx, hP'⟩ := map_cons_inv hP
  obtain rfl : x.p = p := hx
  obtain ⟨xp, xa, xc⟩ := x
  dsimp only at hst hkl htq hl2 hP hP' hPl
  have hkl' : k + (qs'.length + 1) ≤ 900 := by rw [← List.length_cons (a := xp)]; exact hkl
  have hl3 : 1 ≤ qs'.length := by rw [List.length_cons] at hl2; omega
  have hx0 : ((⟨xp, xa, xc⟩ :: P' : List PaV))[0]? = some ⟨xp, xa, xc⟩ := rfl
  refine Gs.slAddr (xs := (⟨xp, xa, xc⟩ :: P' : List PaV)) (SlH.own (E := 127) (enc := paC) (by repeat constructor)) fun pb po hpa => ?_
  obtain rfl := hpa (by simp)
  refine Lpu rfl rfl ⟨_, rfl, rfl⟩ (pu_move rfl) (Lpu rfl rfl ⟨_, rfl, rfl⟩ (by first | exact pu_nil rfl | exact pu_nilF rfl) ?_)
  refine Lpu rfl rfl ⟨_, rfl, rfl⟩ (pu_fa fa_125_3 rfl) (Lrd rfl rfl ⟨_, rfl, rfl⟩ (rd_ld na_123 rfl (Rdc.cl1 (by repeat constructor) rfl)) ?_)
  refine Lpu rfl rfl ⟨_, rfl, rfl⟩ (pu_ia se_123 rfl rfl (by omega) (by omega)) (Lrd rfl rfl ⟨_, rfl, rfl⟩ (rd_lda ag_127 rfl (Rdc.el0 (SlH.own (xs := (⟨xp, xa, xc⟩ :: P' : List PaV)) (E := 127) (enc := paC) (sz := 3) (by repeat constructor)) hx0 rfl rfl) rfl) ?_)
  refine Lpu rfl rfl ⟨_, rfl, rfl⟩ (pu_move rfl) ?_
  rw [List.map_cons]
  refine Gs.takes (As := [big (topO ⟨xp, xa, xc⟩ :: P'.map topO)]) (by repeat constructor) (Gs.bigTake .hd ?_)
  refine Lac rfl rfl ⟨_, rfl, rfl⟩ (asC (gone_spec (S := topO ⟨xp, xa, xc⟩) (U := U) (nm := xp.n) (z := (xp.z : Nat)) (a := xa) (c := xc) (t := xp.t) Srd.own hU (htq xp (by simp)))) ?_
  rintro _ _ ⟨_, ⟨rfl, rfl⟩, rfl⟩
  refine Gs.takes (As := [topO ⟨xp, xa, xc⟩, big (P'.map topO)]) (by repeat constructor) (Gs.bigBack (L := topO ⟨xp, xa, xc⟩ :: P'.map topO) .hd ?_)
  rw [← List.map_cons]
  refine Gs.lgClose (b := b) (d := d) (n := n) (made := made) (ps := xp :: qs') (P := (⟨xp, xa, xc⟩ :: P' : List PaV)) (a := some ⟨pb, po, none⟩) (c := pc) (by repeat constructor) rfl hP ?_
  refine Lpk rfl rfl rfl (LpuB rfl rfl trivial (pu_move rfl) (fun hg20 => ?_) (fun hg20 => ?_))
  ·
   refine Lpu rfl rfl ⟨_, rfl, rfl⟩ (pu_move rfl) (Lac rfl rfl ⟨_, rfl, rfl⟩ (asC (lasts_spec (b := b) (d := d) (n := n) (made := made) (ps := xp :: qs') (by simp) (by rw [List.length_cons]; omega))) ?_)
   rintro _ _ ⟨_, ⟨rfl, rfl⟩, rfl⟩
   refine Lpk rfl rfl rfl (Lnt (Gs.cond rfl (fun hc0 => ?_) (fun hc0 => ?_)))
   ·
    have hgo : trimL w qs' (del E xp.n) (k + 1) = A := by rw [← hst]; exact (trimL_go E k hl3 (by rw [hg20, hc0]; rfl)).symm
    refine Gs.lgOpen (b := b) (d := d) (n := n) (made := made) (ps := xp :: qs') (by repeat constructor) fun pa2 pc2 P2 hP2 => ?_
    obtain ⟨⟨yp, ya, yc⟩, Q, rfl, hy, hQ⟩ := map_cons_inv hP2
    obtain rfl : yp = xp := hy
    have hy0 : ((⟨yp, ya, yc⟩ :: Q : List PaV))[0]? = some ⟨yp, ya, yc⟩ := rfl
    refine Gs.slAddr (xs := (⟨yp, ya, yc⟩ :: Q : List PaV)) (SlH.own (E := 127) (enc := paC) (by repeat constructor)) fun pb2 po2 hpa2 => ?_
    obtain rfl := hpa2 (by simp)
    refine Gs.skip (Gn (Gs.block (Gs.seq (Gs.regD mixed (by kernel_rfl) (Rmv 0 rfl (by kernel_rfl) rfl (Rq 1 rfl (by kernel_rfl) (by first | exact pu_nil rfl | exact pu_nilF rfl) ?_))))))
    refine Rq 2 rfl (by kernel_rfl) (pu_fa fa_125_0 rfl) (Rr 3 rfl (by kernel_rfl) (rd_ld na_40 rfl (Rdc.cl1 (by repeat constructor) rfl)) ?_)
    refine Rmv 4 rfl (by kernel_rfl) rfl (Rq 5 rfl (by kernel_rfl) (by first | exact pu_nil rfl | exact pu_nilF rfl) ?_)
    refine Rq 6 rfl (by kernel_rfl) (pu_fa fa_125_3 rfl) (Rr 7 rfl (by kernel_rfl) (rd_ld na_123 rfl (Rdc.cl1 (by repeat constructor) rfl)) ?_)
    refine Rq 8 rfl (by kernel_rfl) (pu_ia se_123 rfl rfl (by decide) (by simp)) ?_
    refine Rq 9 rfl (by kernel_rfl) (pu_fa fa_127_0 rfl) (Rr 10 rfl (by kernel_rfl) (rd_ld na_9 rfl (Rdc.elp 1 (SlH.own (xs := (⟨yp, ya, yc⟩ :: Q : List PaV)) (E := 127) (enc := paC) (sz := 3) (by repeat constructor)) hy0 rfl rfl)) ?_)
    refine Rg.one (by kernel_rfl) (Stp.ac 11 rfl rfl (by kernel_rfl) trivial (asC (remove_spec d most E yp.n))  ?_)
    rintro _ _ ⟨_, ⟨rfl, rfl⟩, rfl⟩
    refine Rg.end (by kernel_rfl) (Gn (Gsr (Lmv rfl rfl (Lmv rfl rfl (Lq rfl (by first | exact pu_nil rfl | exact pu_nilF rfl) ?_)))))
    refine Lq rfl (pu_fa fa_125_3 rfl) (Lr rfl (rd_ld na_123 rfl (Rdc.cl1 (by repeat constructor) rfl)) ?_)
    refine Lq rfl (pu_sliceL et_123 rfl rfl (by decide) (by simp; omega)) ?_
    refine Lq rfl (by first | exact pu_nil rfl | exact pu_nilF rfl) ?_
    refine Lq rfl (pu_fa fa_125_3 rfl) (Lac0 rfl trivial (ac_st sz_123 rfl rfl (by repeat constructor) rfl rfl rfl rfl) ?_)
    rintro _ _ rfl
    refine Lnil (Gs.slTail (E := 127) (sz := 3) (enc := paC) (a := some ⟨pb2, po2, none⟩) (c := pc2) (x := ⟨yp, ya, yc⟩) (xs := Q) (by repeat constructor) ?_)
    rw [List.map_cons]
    refine Gs.takes (As := [big (topO ⟨yp, ya, yc⟩ :: Q.map topO)]) (by repeat constructor) (Gs.bigTake .hd ?_)
    refine Gs.lgClose (b := b) (d := d) (n := n) (made := made) (ps := qs') (P := Q) (a := suba (some ⟨pb2, po2, none⟩) 1 pc2 3) (c := pc2 - 1) (by repeat constructor) (by simp) hQ ?_
    refine Gn (Gs.reg (Lmv rfl rfl (Lq rfl (pu_addI (z := ((k + 1 : Nat) : Int)) rfl rfl (by omega) (by omega) (by omega)) ?_)))
    refine Las rfl rfl (Lnil (Gs.blk_n (Gn ?_)))
    exact Ag (k + 1, qs', del E yp.n) ⟨hgo, by show k + 1 + qs'.length ≤ 900; rw [List.length_cons] at hkl; omega, fun p hp => htq p (by simp [hp])⟩ (by show qs'.length < (yp :: qs').length; simp)
   have hfin : A = ⟨k, xp :: qs', E⟩ := by rw [← hst]; exact trimL_stop E k (by rw [hc0, Bool.and_false])
   refine Gs.exit (Gx (Gx (Gs.blk_hit (Gn (Gsr (Lmv rfl rfl (Las rfl rfl (Lnt (Gs.ret ?_)))))))))
   exact Gs.fin1 Tryz.results41 rfl _ (⟨by rw [hfin], by rw [hfin]⟩) (by repeat constructor)
  have hfin : A = ⟨k, xp :: qs', E⟩ := by rw [← hst]; exact trimL_stop E k (by rw [hg20]; rfl)
  refine Lof rfl (Lof rfl (Lpk rfl rfl rfl (Lnt (Gs.cond_f rfl (Gs.exit (Gx (Gx (Gs.blk_hit (Gn (Gsr (Lmv rfl rfl ?_)))))))))))
  refine Las rfl rfl (Lnt (Gs.ret ?_))
  exact Gs.fin1 Tryz.results41 rfl _ (⟨by rw [hfin], by rw [hfin]⟩) (by repeat constructor)
 have hshort : qs.length ≤ 1 := by have := of_decide_eq_false hg10; omega
 have hfin : A = ⟨k, qs, E⟩ := by rw [← hst]; exact trimL_short hshort ..
 refine Gs.lgClose (b := b) (d := d) (n := n) (made := made) (ps := qs) (P := P) (a := pa) (c := pc) (by repeat constructor) rfl hP ?_
 refine Lof rfl (Lof rfl (Lof rfl (Lof rfl (Lof rfl (Lof rfl (Lof rfl (Lof rfl (Lpk rfl rfl rfl (Lmv rfl rfl (Lof rfl (Lof rfl ?_)))))))))))
 refine Lpk rfl rfl rfl (Lnt (Gs.cond_f rfl (Gs.exit (Gx (Gx (Gs.blk_hit (Gn (Gsr (Lmv rfl rfl (Las rfl rfl (Lnt ?_)))))))))))
 refine Gs.ret ?_
 exact Gs.fin1 Tryz.results41 rfl _ (⟨by rw [hfin], by rw [hfin]⟩) (by repeat constructor)
end Go.Proofs.YtflfhpokmidnmaaGreatDoor
namespace Go.Proofs.YtflfhpokmidnmaaGreatDoor
open Go Go.Sl Go.Gv Go.Dv Go.Bst
set_option maxRecDepth 100000
structure St (n : Int) (made : Nat) (xs : List Seg) : Prop where
 inv : Inv n made xs
 ne : xs ≠ []
theorem last_of {xs : List Seg} (h : xs ≠ []) : ∃ X x, xs = X ++ [x] := ⟨xs.dropLast, xs.getLast h, (List.dropLast_concat_getLast h).symm⟩
def wS (most n : Int) (made : Nat) (xs : List Seg) (e : EntP) (v w : List Int) : SOut :=
 if mayW n e v w = true then (match xs.getLast? with
   | none => ⟨0, made, xs⟩
   | some x => wrS most made xs.dropLast x e v w) else ⟨2, made, xs⟩
theorem wS_yes {most n : Int} {made : Nat} {X : List Seg} {x : Seg} {e : EntP} {v w : List Int} (h : mayW n e v w = true) : wS most n made (X ++ [x]) e v w = wrS most made X x e v w := by
 unfold wS; rw [if_pos h]; simp
theorem wS_no {most n : Int} {made : Nat} {xs : List Seg} {e : EntP} {v w : List Int} (h : mayW n e v w = false) : wS most n made xs e v w = ⟨2, made, xs⟩ := by
 unfold wS; rw [if_neg (by rw [h]; decide)]
theorem wS_write {most n : Int} {made : Nat} {X : List Seg} {x : Seg} {e : EntP} {v w : List Int} (h : Inv n made (X ++ [x])) (hm : made < 99) :
   writeL most n ((X ++ [x]).map segF) made (X.map (segP n)) (segP n x) e v w = ⟨(wS most n made (X ++ [x]) e v w).e, (wS most n made (X ++ [x]) e v w).xs.map segF, ⟨(wS most n made (X ++ [x]) e v w).made, (wS most n made (X ++ [x]) e v w).xs.map (segP n)⟩⟩ := by
 cases hw : mayW n e v w with
 | true => rw [wS_yes hw]; exact writeL_eq h hm hw
 | false => rw [wS_no hw, writeL_no hw]; simp
section
variable {most n : Int} {made : Nat} {xs : List Seg} {e : EntP} {v w : List Int}
theorem wrS_ne (X : List Seg) (x : Seg) : (wrS most made X x e v w).xs ≠ [] ∧ X.length + 1 ≤ (wrS most made X x e v w).xs.length ∧ (wrS most made X x e v w).xs.length ≤ X.length + 2 := by
 unfold wrS
 split <;> split <;> simp
theorem wS_st (h : St n made xs) : St n (wS most n made xs e v w).made (wS most n made xs e v w).xs := by
 obtain ⟨X, x, rfl⟩ := last_of h.ne
 cases hw : mayW n e v w with
 | true => rw [wS_yes hw]; exact ⟨wrS_inv h.inv hw, (wrS_ne X x).1⟩
 | false => rw [wS_no hw]; exact h
theorem wS_made (h : St n made xs) : made ≤ (wS most n made xs e v w).made ∧ (wS most n made xs e v w).made ≤ made + 1 := by
 obtain ⟨X, x, rfl⟩ := last_of h.ne
 cases hw : mayW n e v w with
 | true => rw [wS_yes hw]; exact wrS_code.2
 | false => rw [wS_no hw]; exact ⟨Nat.le_refl _, Nat.le_succ _⟩
theorem wS_used (h : St n made xs) : usedS (wS most n made xs e v w).xs ≤ usedS xs + 190 := by
 obtain ⟨X, x, rfl⟩ := last_of h.ne
 cases hw : mayW n e v w with
 | true =>
   rw [wS_yes hw]
   obtain ⟨-, h1, h2⟩ := mayW_iff hw
   have h3 := layE_len h1
   have h4 := base_len h2
   have := wrS_used (most := most) (made := made) (X := X) (x := x) (e := e) (v := v) (w := w)
   omega
 | false => rw [wS_no hw]; dsimp only; omega
theorem wS_ok (h : St n made xs) (hw : mayW n e v w = true) (hr : (usedS xs : Int) + 190 ≤ most) : (wS most n made xs e v w).e = 0 := by
 obtain ⟨X, x, rfl⟩ := last_of h.ne
 rw [wS_yes hw]
 obtain ⟨-, h1, h2⟩ := mayW_iff hw
 have h3 := layE_len h1
 have h4 := base_len h2
 exact wrS_room (by omega)
end
theorem names_seg (n : Int) (xs : List Seg) : (xs.map (segP n)).map Pa.n = (xs.map Seg.k).map nameK := by simp only [List.map_map]; rfl
theorem names_segF (xs : List Seg) : names (xs.map segF) = (xs.map Seg.k).map nameK := names_map (k := Seg.k) (fun _ => rfl) xs
theorem sync_all (xs : List Seg) : syncE (xs.map segF) ((xs.map Seg.k).map nameK) = 0 ∧ syncL (xs.map segF) ((xs.map Seg.k).map nameK) = (xs.map syn).map segF := by
 constructor
 · unfold syncE
   rw [if_pos]
   unfold allB
   rw [List.all_eq_true]
   intro nm hnm
   rw [← names_segF] at hnm
   obtain ⟨f, hf⟩ := lookF_some hnm
   rw [hf]; rfl
 · obtain ⟨N, hN⟩ : ∃ N, N = (xs.map Seg.k).map nameK := ⟨_, rfl⟩
   rw [← hN]
   unfold syncL
   rw [List.map_map, List.map_map]
   refine List.map_congr_left fun x hx => ?_
   simp only [Function.comp]
   have : N.any (fun n => decide (n = (segF x).n)) = true := by
     rw [hN, List.any_eq_true]
     exact ⟨nameK x.k, List.mem_map_of_mem (List.mem_map_of_mem hx), decide_eq_true rfl⟩
   rw [if_pos this]; rfl
theorem syn_st {n : Int} {made : Nat} {xs : List Seg} (h : St n made xs) : St n made (xs.map syn) := by
 refine ⟨⟨?_, fun x hx => ?_, fun x hx => ?_, fun x hx => ?_⟩, by simpa using h.ne⟩
 · rw [List.pairwise_map]; exact h.inv.asc
 all_goals
   obtain ⟨y, hy, rfl⟩ := List.mem_map.1 hx
 · exact h.inv.num y hy
 · exact h.inv.good y hy
 · exact Nat.le_refl _
theorem syn_segP (n : Int) (xs : List Seg) : (xs.map syn).map (segP n) = xs.map (segP n) := by rw [List.map_map]; rfl
theorem syn_flat (xs : List Seg) : flatS (xs.map syn) = flatS xs := by unfold flatS; rw [List.flatMap_map]; rfl
theorem syn_used (xs : List Seg) : usedS (xs.map syn) = usedS xs := by unfold usedS; rw [List.map_map]; rfl
theorem sort_seg {n : Int} {made : Nat} {xs : List Seg} (h : Inv n made xs) (hm : made < 100) : sortB (names (xs.map segF)) = (xs.map Seg.k).map nameK :=
 sort_names (k := Seg.k) (fun _ => rfl) h.asc fun x hx => by have := h.num x hx; omega
theorem openA_cs {most n : Int} {xs : List Cs} (h : CsOk n xs) (hne : xs.filterMap after ≠ []) : openA most n (xs.map Cs.k) (xs.map csF) = ⟨0, (xs.filterMap after).map segF, ⟨topK (xs.map Cs.k), (xs.filterMap after).map (segP n)⟩, flatS (xs.filterMap after)⟩ := by
 have h1 := openL_cs (n := n) xs [] ⟨0, []⟩ [] h.good (fun x hx => by have := h.num x hx; omega) h.asc (fun x _ hx => by cases hx)
 rw [List.nil_append, List.nil_append, List.nil_append, List.nil_append] at h1
 unfold openA
 rw [h1]
 dsimp only
 rw [if_pos (by simpa using hne)]; rfl
theorem openA_none {most n : Int} {xs : List Cs} (h : CsOk n xs) (hne : xs.filterMap after = []) : openA most n (xs.map Cs.k) (xs.map csF) =
   if appE most [] (nameK (topK (xs.map Cs.k) + 1)) (layE (zeroB n)) = 0 then ⟨0, appL most [] (nameK (topK (xs.map Cs.k) + 1)) (layE (zeroB n)), ⟨topK (xs.map Cs.k) + 1, [⟨nameK (topK (xs.map Cs.k) + 1), (layE (zeroB n)).length, zeros n⟩]⟩, [zeroB n]⟩
   else ⟨appE most [] (nameK (topK (xs.map Cs.k) + 1)) (layE (zeroB n)), [], ⟨0, []⟩, []⟩ := by
 have h1 := openL_cs (n := n) xs [] ⟨0, []⟩ [] h.good (fun x hx => by have := h.num x hx; omega) h.asc (fun x _ hx => by cases hx)
 rw [List.nil_append, List.nil_append, List.nil_append, List.nil_append, hne] at h1
 unfold openA
 rw [h1]
 dsimp only [List.map_nil]
 rw [if_neg (fun h => h rfl)]; rfl
def newSeg (n : Int) (k : Nat) : Seg := ⟨k, [zeroB n], 0⟩
theorem zeroB_len {n : Int} (h1 : 1 ≤ n) (h8 : n ≤ 8) : (layE (zeroB n)).length ≤ 46 := base_len (zeroB_may h1 h8)
theorem newSeg_st {n : Int} (h1 : 1 ≤ n) (h8 : n ≤ 8) {k : Nat} (hk : 1 ≤ k) : St n k [newSeg n k] := by
 have hz := zeroB_may h1 h8
 refine ⟨⟨by simp, fun x hx => ?_, fun x hx => ?_, fun x hx => ?_⟩, by simp⟩ <;> (simp only [List.mem_cons, List.not_mem_nil, or_false] at hx; subst hx)
 · exact ⟨hk, Nat.le_refl _⟩
 · refine ⟨fun x hx => ?_, fun i e hi => ?_, by simp [newSeg]⟩
   · simp [newSeg] at hx; subst hx; exact hz
   · cases i with
     | zero => simp [newSeg] at hi; subst hi; rfl
     | succ i => simp [newSeg] at hi
 · exact Nat.zero_le _
theorem new_maps (n : Int) (k : Nat) : [newSeg n k].map segF = [⟨nameK k, layE (zeroB n), 0⟩] ∧ [newSeg n k].map (segP n) = [⟨nameK k, (layE (zeroB n)).length, zeros n⟩] := by
 have e : layS [zeroB n] = layE (zeroB n) := by simp [layS]
 have t : topsOf n [zeroB n] = zeros n := rfl
 refine ⟨?_, ?_⟩
 · simp only [List.map_cons, List.map_nil, segF, newSeg, e]
 · simp only [List.map_cons, List.map_nil, segP, newSeg, e, t]
theorem app_new {most n : Int} {k : Nat} (hk : k < 100) : appE most [] (nameK k) (layE (zeroB n)) = if most < (layE (zeroB n)).length then 8 else 0 := by
 unfold appE
 rw [if_pos (name_ok hk).2]
 simp [used]
theorem app_newL {most n : Int} {k : Nat} (hk : k < 100) (hr : ¬ most < (layE (zeroB n)).length) : appL most [] (nameK k) (layE (zeroB n)) = [newSeg n k].map segF := by
 unfold appL
 rw [app_new hk, if_neg hr, if_pos rfl, (new_maps n k).1]
 rfl
theorem first_base {n : Int} {made : Nat} {xs : List Seg} (h : St n made xs) : ∃ e, (flatS xs)[0]? = some e ∧ e.kind = 1 := by
 obtain ⟨h1, h2⟩ := h
 cases xs with
 | nil => exact (h2 rfl).elim
 | cons x xs =>
   have hg := h1.good x (by simp)
   cases hx : x.es with
   | nil => exact (hg.ne hx).elim
   | cons e es =>
     refine ⟨e, by simp [flatS, hx], ?_⟩
     have := hg.base 0 e (by rw [hx]; rfl)
     simpa using this
end Go.Proofs.YtflfhpokmidnmaaGreatDoor
namespace Go.Proofs.YtflfhpokmidnmaaGreatDoor
open Go Go.Sl Go.Gv
set_option maxRecDepth 100000
end Go.Proofs.YtflfhpokmidnmaaGreatDoor
namespace Go.Sl
open Go
theorem big_behind {P L M : List HProp} (i : ∀ h, big L h → big M h) {h : Hp} (x : big (P ++ L) h) : big (P ++ M) h := by
 obtain ⟨h1, h2, d, rfl, p, l⟩ := big_append.1 x
 exact big_append.2 ⟨h1, h2, d, rfl, p, i _ l⟩
theorem Ct.bigLast {P : Program} {f : FuncId} {args : List Value} {pre L : List HProp} {post : Value → List HProp → Prop} (c : Ct P f args (pre ++ [big L]) (fun v hs => ∃ r, post v r ∧ hs = r ++ [big L])) : Ct P f args (pre ++ L) (fun v hs => ∃ r, post v r ∧ hs = r ++ L) :=
 ⟨c.enters, fun w0 w R s => by
   have s1 : Sat w0 w ((pre ++ [big L]) ++ R) := s.imp fun h x => by
     rw [List.append_assoc] at x ⊢
     exact big_behind (L := L ++ R) (M := Sl.big L :: R) (fun h' y => (big_append (L := L) (M := R)).1 y) x
   exact (c.calls w0 w R s1).mono fun _ _ ⟨v, hs, he, ⟨r, hp, e2⟩, hsat⟩ => by
     subst e2
     refine ⟨v, _, he, ⟨r, hp, rfl⟩, hsat.imp fun h x => ?_⟩
     rw [List.append_assoc] at x ⊢
     exact big_behind (L := Sl.big L :: R) (M := L ++ R) (fun h' y => (big_append (L := L) (M := R)).2 y) x⟩
theorem Srd.nil {α : Type} {A : HProp} {sz : Nat} {enc : α → List Value} {a : Option Addr} : Srd A sz enc a ([] : List α) := fun _ _ _ _ _ _ h => (h rfl).elim
end Go.Sl
namespace Go.Proofs.YtflfhpokmidnmaaGreatDoor
open Go Go.Sl Go.Gv Go.Dv Go.Bst
set_option maxRecDepth 100000
def OpRel (n : Int) (xs : List Cs) (made : Nat) (ys : List Seg) : Prop :=
 (xs.filterMap after ≠ [] ∧ ys = xs.filterMap after ∧ made = topK (xs.map Cs.k)) ∨ (xs.filterMap after = [] ∧ ys = [newSeg n (topK (xs.map Cs.k) + 1)] ∧ made = topK (xs.map Cs.k) + 1)
theorem writeSt_spec {b d : Nat} {n most : Int} {made : Nat} {xs : List Seg} {Ux : HProp} {e : EntV} {va wa : Option Addr} {vc wc : Nat} {v w : List Int} (hE : EVd Ux e) (hV : Srd Ux 1 intC va v) (hW : Srd Ux 1 intC wa w) (hR : RMs Ux) (h1 : 1 ≤ n) (h8 : n ≤ 8)
   (h : St n made xs) (hm : made < 98) (hl : xs.length ≤ 900) (hu : usedS xs ≤ 1048576) :
   Ct Tryz.prog 69 [ptr b, entV e, .slice va v.length vc, .slice wa w.length wc] [lgr b d n ⟨made, xs.map (segP n)⟩, drv d most (xs.map segF), Ux]
     (fun r hs => r = int (wS most n made xs e.p v w).e ∧ hs = [lgr b d n ⟨(wS most n made xs e.p v w).made, (wS most n made xs e.p v w).xs.map (segP n)⟩, drv d most ((wS most n made xs e.p v w).xs.map segF), Ux]) := by
 obtain ⟨X, x, rfl⟩ := last_of h.ne
 have hk := h.inv.num x (by simp)
 have hno := name_ok (k := x.k) (by omega)
 have hu2 := used_snoc X x
 have hsy : syncE ((X ++ [x]).map segF) [nameK x.k] = 0 := by
   have hD : (X ++ [x]).map segF = X.map segF ++ [⟨nameK x.k, layS x.es, x.s⟩] := by simp [segF]
   rw [hD]
   unfold syncE
   rw [if_pos (last_sync (s := x.s) (b := layS x.es) (lookF_none.2 (look_init h.inv (by omega)))).1]
 have hw := write_spec (b := b) (d := d) (n := n) (most := most) (made := made) (U := X.map (segP n)) (p := segP n x) (D := (X ++ [x]).map segF) (vc := vc) (wc := wc) hE hV hW hR h1 h8 (by omega) (by rw [List.length_map]; rw [List.length_append] at hl; omega) (tops_len n x.es)
   (by show (layS x.es).length ≤ 1048576; omega) (by rw [List.length_map]; exact hl) hno.1 (by show (nameK x.k).size ≤ 100; rw [name_size]; decide) hsy
 rw [wS_write h.inv (by omega)] at hw
 rw [show (X ++ [x]).map (segP n) = X.map (segP n) ++ [segP n x] by simp]
 exact hw
theorem writeG_spec {b d : Nat} {n most : Int} {made : Nat} {xs : List Seg} {L : List HProp} {e : EntV} {va wa : Option Addr} {vc wc : Nat} {v w : List Int} (hE : EVd (big L) e) (hV : Srd (big L) 1 intC va v) (hW : Srd (big L) 1 intC wa w) (hR : RMs (big L)) (h1 : 1 ≤ n) (h8 : n ≤ 8)
   (h : St n made xs) (hm : made < 98) (hl : xs.length ≤ 900) (hu : usedS xs ≤ 1048576) :
   Ct Tryz.prog 69 [ptr b, entV e, .slice va v.length vc, .slice wa w.length wc] ([lgr b d n ⟨made, xs.map (segP n)⟩, drv d most (xs.map segF)] ++ L)
     (fun r hs => r = int (wS most n made xs e.p v w).e ∧ hs = [lgr b d n ⟨(wS most n made xs e.p v w).made, (wS most n made xs e.p v w).xs.map (segP n)⟩, drv d most ((wS most n made xs e.p v w).xs.map segF)] ++ L) := by
 have hc := writeSt_spec (b := b) (d := d) (most := most) (vc := vc) (wc := wc) hE hV hW hR h1 h8 h hm hl hu
 have hc2 := Ct.bigLast (pre := [lgr b d n ⟨made, xs.map (segP n)⟩, drv d most (xs.map segF)]) (L := L) (post := fun r hs => r = int (wS most n made xs e.p v w).e ∧ hs = [lgr b d n ⟨(wS most n made xs e.p v w).made, (wS most n made xs e.p v w).xs.map (segP n)⟩, drv d most ((wS most n made xs e.p v w).xs.map segF)])
   (hc.mono fun r hs ⟨e1, e2⟩ => ⟨_, ⟨e1, rfl⟩, e2⟩)
 exact hc2.mono fun r hs ⟨q, ⟨e1, e2⟩, e3⟩ => ⟨e1, by rw [e3, e2]⟩
theorem syncSt_spec {b d : Nat} {n most : Int} {made : Nat} {xs : List Seg} (hl : xs.length ≤ 900) :
   Ct Tryz.prog 40 [ptr b] [lgr b d n ⟨made, xs.map (segP n)⟩, drv d most (xs.map segF)]
     (fun v hs => v = int 0 ∧ hs = [lgr b d n ⟨made, xs.map (segP n)⟩, drv d most ((xs.map syn).map segF)]) := by
 have hs := lgSync_spec (b := b) (d := d) (n := n) (most := most) (made := made) (ps := xs.map (segP n)) (D := xs.map segF) (by rw [List.length_map]; omega)
 obtain ⟨h1, h2⟩ := sync_all xs
 rw [names_seg, h1, if_pos rfl, h2] at hs
 exact hs
section
variable {w0 : World} {nn : Nat} {env : Env} {H : List HProp} {X : Act → World → Prop}
end
end Go.Proofs.YtflfhpokmidnmaaGreatDoor
namespace Go.Proofs.YtflfhpokmidnmaaGreatDoor
open Go Go.Sl Go.Gv
set_option maxRecDepth 100000
def lowZ (a b : Int) : Int := IntKind.i64.wrap ((IntKind.u64.wrap a).tmod (IntKind.u64.wrap b))
theorem lowZ_in {a b : Int} (hb : 0 < b) (hb2 : b ≤ 100000000) : 0 ≤ lowZ a b ∧ lowZ a b < b := by
 have h1 : IntKind.u64.wrap b = b := by simp [IntKind.wrap, IntKind.bits, IntKind.signed]; omega
 have h2 : 0 ≤ IntKind.u64.wrap a := by simp [IntKind.wrap, IntKind.bits, IntKind.signed]; omega
 unfold lowZ
 rw [h1]
 have h3 := Int.tmod_nonneg b h2
 have h4 := Int.tmod_lt_of_pos (IntKind.u64.wrap a) hb
 rw [wrap_in (by omega) (by omega)]
 exact ⟨h3, h4⟩
theorem low_spec (a b : Int) (hb : 0 < b) (hb2 : b ≤ 100000000) : Ct Tryz.prog 9 [int a, int b] [] (fun v hs => v = int (lowZ a b) ∧ hs = []) := by
 have h1 : IntKind.u64.wrap b = b := by simp [IntKind.wrap, IntKind.bits, IntKind.signed]; omega
 refine Cti Tryz.func9 (by kernel_rfl) 11 Tryz.ntmps9 rfl rfl fun w0 R => ?_
 refine Gsr (Las rfl rfl (Lnt (Gsr (Lmv rfl rfl (Lq rfl (pu_conv Tryz.underlying3 Tryz.underlying65 rfl) (Lmv rfl rfl (Lq rfl (pu_conv Tryz.underlying3 Tryz.underlying65 rfl) (Lq rfl (pu_rem rfl rfl (by rw [h1]; omega)) ?_))))))))
 refine Lq rfl (pu_conv Tryz.underlying65 Tryz.underlying3 rfl) (Las rfl rfl (Lnt (Gs.ret ?_)))
 exact Gs.fin1 Tryz.results9 rfl _ (⟨rfl, rfl⟩) (by repeat constructor)
end Go.Proofs.YtflfhpokmidnmaaGreatDoor
namespace Go.Proofs.YtflfhpokmidnmaaGreatDoor
open Go Go.Sl Go.Gv Go.Dv Go.Bst
set_option maxRecDepth 100000
end Go.Proofs.YtflfhpokmidnmaaGreatDoor
namespace Go.Sl
open Go
section
variable {P : Program} {f : FuncId} {args : List Value} {pre : List HProp} {post post' : Value → List HProp → Prop}
theorem Ct.ex {α : Type} {A : α → HProp} (x0 : α) (c : ∀ x, Ct P f args (A x :: pre) post) : Ct P f args ((fun h => ∃ x, A x h) :: pre) post :=
 ⟨(c x0).enters, fun w0 w R s => let ⟨x, s⟩ := Sat.ex s; (c x).calls w0 w R s⟩
theorem Ct.imp (S : Ct P f args pre post) (i : ∀ v hs, post v hs → ∃ hs', post' v hs' ∧ ∀ h, big hs h → big hs' h) : Ct P f args pre post' :=
 ⟨S.enters, fun w0 w R s => (S.calls w0 w R s).mono fun _ _ ⟨v, hs, e, p, t⟩ => by
   obtain ⟨hs', p', im⟩ := i v hs p
   refine ⟨v, hs', e, p', t.imp fun h hb => ?_⟩
   obtain ⟨h1, h2, d, rfl, a, b⟩ := big_append.1 hb
   exact big_append.2 ⟨h1, h2, d, rfl, im _ a, b⟩⟩
theorem Ct.fore (c : Ct P f args pre post) {pre2 : List HProp} (e : Ent pre2 pre) : Ct P f args pre2 post :=
 ⟨c.enters, fun w0 w R s => c.calls w0 w R (s.imp fun h hb => by
   obtain ⟨h1, h2, d, rfl, a, b⟩ := big_append.1 hb
   exact big_append.2 ⟨h1, h2, d, rfl, e.big a, b⟩)⟩
theorem big_hd {A B : HProp} {L : List HProp} (i : ∀ h, A h → B h) : ∀ h, big (A :: L) h → big (B :: L) h := fun _ ⟨h1, h2, d, e, a, l⟩ => ⟨h1, h2, d, e, i _ a, l⟩
end
end Go.Sl
namespace Go.Proofs.YtflfhpokmidnmaaGreatDoor
open Go Go.Sl Go.Gv Go.Kv Go.Po Go.Ix Go.Qu Go.Shelf
set_option maxRecDepth 100000
abbrev PermTo (rs : List Rec) : Type := {l : List Rec // List.Perm l rs}
def PermTo.self (rs : List Rec) : PermTo rs := ⟨rs, List.Perm.refl _⟩
def shP (x : Nat) (rs : List Rec) : HProp := fun h => ∃ l : PermTo rs, shA x l.1 h
def treP (b : Nat) (rs : List Rec) : HProp := fun h => ∃ l : PermTo rs, tre b l.1 h
theorem shP_of {x : Nat} {l rs : List Rec} (p : List.Perm l rs) : ∀ h, shA x l h → shP x rs h := fun _ a => ⟨⟨l, p⟩, a⟩
theorem treP_of {x : Nat} {l rs : List Rec} (p : List.Perm l rs) : ∀ h, tre x l h → treP x rs h := fun _ a => ⟨⟨l, p⟩, a⟩
theorem putR_new {l : List Rec} {r : Rec} (h : recB r = true) (hn : r.key ∉ l.map Rec.key) : putR l r = l ++ [r] := by
 unfold putR; rw [if_pos (by rw [h, decide_eq_true hn]; rfl)]
theorem perm_new {l rs : List Rec} (p : List.Perm l rs) {k : Key} (hn : k ∉ rs.map Rec.key) : k ∉ l.map Rec.key := fun h => hn ((p.map Rec.key).subset h)
theorem shPut_spec {h0 : Hp} (T : TabX h0) (x : Nat) (rs : List Rec) (r : Rec) (hr : recB r = true) (hn : r.key ∉ rs.map Rec.key) (hl : rs.length ≤ 700) (a : Option Addr) (c : Nat) :
   Ct Tryz.prog 61 [ptr x, .slice a 1 c] [shP x rs, ro h0, sl 50 5 recC a c [r]] (fun v hs => (∃ e, v = int e) ∧ hs = [shP x (rs ++ [r]), ro h0, sl 50 5 recC a c [r]]) := by
 refine Ct.ex (PermTo.self rs) fun l => ?_
 have hT : TabU (two (ro h0) (sl 50 5 recC a c [r])) := ⟨h0, T, Inn.two1⟩
 have hll : l.1.length = rs.length := l.2.length_eq
 refine (Ct.twoR (sput_spec (S := two (ro h0) (sl 50 5 recC a c [r])) hT x l.1 (a := a) (c := c) (ys := [r]) (Srd.two2 Srd.own) (by show l.1.length + 1 ≤ 800; omega))).imp ?_
 rintro v hs ⟨A', ⟨rfl, rfl⟩, rfl⟩
 refine ⟨_, ⟨⟨_, rfl⟩, rfl⟩, big_hd (shP_of ?_)⟩
 show List.Perm (putR l.1 r) _
 rw [putR_new hr (perm_new l.2 hn)]
 exact List.Perm.append_right _ l.2
theorem tput_new {l : List Rec} {r : Rec} (h : recB r = true) (hn : r.key ∉ l.map Rec.key) : putAll l [r] = l ++ [r] := by
 show putOne l r = _
 unfold putOne putOk
 rw [if_pos (by rw [h, show lookR l r.key = none from lookR_none.2 hn]; rfl)]
theorem trPut_spec {h0 : Hp} (T : TabX h0) (b : Nat) (rs : List Rec) (r : Rec) (hr : recB r = true) (hn : r.key ∉ rs.map Rec.key) (hl : rs.length ≤ 100000) (a : Option Addr) (c : Nat) :
   Ct Tryz.prog 62 [ptr b, .slice a 1 c] [treP b rs, ro h0, sl 50 5 recC a c [r]] (fun v hs => (∃ e, v = int e) ∧ hs = [treP b (rs ++ [r]), ro h0, sl 50 5 recC a c [r]]) := by
 refine Ct.ex (PermTo.self rs) fun l => ?_
 have hll : l.1.length = rs.length := l.2.length_eq
 have c1 := treePut_spec T.1 (S := sl 50 5 recC a c [r]) b l.1 (a := a) (c := c) (rs := [r]) Srd.own (Nat.le_of_ble_eq_true rfl) (by show l.1.length + 1 ≤ 200000; omega)
 refine (Ct.fore c1 (by repeat constructor)).imp ?_
 rintro v hs ⟨rfl, rfl⟩
 refine ⟨_, ⟨⟨_, rfl⟩, rfl⟩, fun h hb => big_hd (treP_of (l := putAll l.1 [r]) ?_) h (big_swap hb)⟩
 rw [tput_new hr (perm_new l.2 hn)]
 exact List.Perm.append_right _ l.2
structure NdM where
 id : Nat
 n : Nat
 wall : Int
 room : Int
 clk : Int × Int
 s : StM
 held : List Rec
 made : Nat
 xs : List Seg
structure NdQ where
 st : Nat
 ck : Nat
 sh : Nat
 tr : Nat
 he : Nat
 mh : Nat
 lg : Nat
 dk : Nat
abbrev ndC (q : NdQ) (id n : Nat) (wall : Int) : List Value := [ptr q.st, ptr q.ck, ptr q.sh, ptr q.tr, ptr q.he, ptr q.lg, int id, int n, int wall, .bool true, ptr q.dk]
abbrev ndL (b : Nat) (q : NdQ) (m : NdM) : List HProp :=
 [cl b 76 (ndC q m.id m.n m.wall), stA q.st m.s.v m.s.w m.s.rs, cl q.ck 116 (clC m.clk), shP q.sh m.s.rs, treP q.tr m.s.rs, cl q.he 136 (heldC 12 q.mh), mp keyV recV q.mh (ents m.held), lgr q.lg q.dk m.n ⟨m.made, m.xs.map (segP m.n)⟩, drv q.dk m.room (m.xs.map segF)]
def ndA (b : Nat) (m : NdM) : HProp := fun h => ∃ q : NdQ, big (ndL b q m) h
section
variable {w0 : World} {n : Nat} {env : Env} {H : List HProp} {X : Act → World → Prop} {b : Nat} {m : NdM}
theorem Gs.nd (g : ∀ q, Gs w0 n env (ndL b q m ++ H) X) : Gs w0 n env (ndA b m :: H) X := Gs.ex (A := fun q => big (ndL b q m)) fun q => fun a w e s => g q a w e (Sat.big.1 s)
theorem Gs.ndc (q : NdQ) (g : Gs w0 n env (ndA b m :: H) X) : Gs w0 n env (ndL b q m ++ H) X := fun a w e s => g a w e ((Sat.big.2 s).ent fun _ x => ⟨q, x⟩)
end
end Go.Proofs.YtflfhpokmidnmaaGreatDoor
namespace Go.Proofs.YtflfhpokmidnmaaGreatDoor
open Go Go.Sl Go.Gv Go.Kv Go.Po Go.Ix Go.Qu Go.Shelf
set_option maxRecDepth 100000
section
variable (b : Nat) (q : NdQ) (id n : Nat) (wall : Int)
theorem ndown_spec : Ct Tryz.prog 34 [ptr b] [cl b 76 (ndC q id n wall)] (fun v hs => v = int 0 ∧ hs = [cl b 76 (ndC q id n wall)]) := by
 refine Cti Tryz.func34 (by kernel_rfl) 12 Tryz.ntmps34 rfl rfl fun w0 R => ?_
 refine Gsr (Las rfl rfl (Lnt (Gs.seq (Gs.block (Gsr (Lmv rfl rfl (Lq rfl (pu_eqN Tryz.underlying26 rfl rfl) (Las rfl rfl (Lnt (Gs.cond_ff rfl rfl (Gsr ?_)))))))))))
 refine Lmv rfl rfl (Lq rfl (by first | exact pu_nil rfl | exact pu_nilF rfl) ?_)
 refine Lq rfl (pu_fa fa_76_4 rfl) (Lr rfl (rd_ld na_4 rfl (Rdc.cl1 (by repeat constructor) rfl)) ?_)
 refine Lq rfl (pu_not rfl) (Las rfl rfl (Lnt (Gs.cond_ff rfl rfl (Gs.skip (Gs.blk_n (Gn (Gsr (Las rfl rfl (Lnt (Gs.ret ?_))))))))))
 exact Gs.fin1 Tryz.results34 rfl _ (⟨rfl, rfl⟩) (by repeat constructor)
theorem nUp_spec : Ct Tryz.prog 29 [ptr b] [cl b 76 (ndC q id n wall)] (fun v hs => v = .bool true ∧ hs = [cl b 76 (ndC q id n wall)]) := by
 refine Cti Tryz.func29 (by kernel_rfl) 11 Tryz.ntmps29 rfl rfl fun w0 R => ?_
 refine Gsr (Las rfl rfl (Lnt (Gsr (Lmv rfl rfl (Lq rfl (pu_neN Tryz.underlying26 rfl rfl) (LpuBt rfl rfl trivial (pu_move rfl) rfl (Lpu rfl rfl ⟨_, rfl, rfl⟩ (pu_move rfl) (Lpu rfl rfl ⟨_, rfl, rfl⟩ (by first | exact pu_nil rfl | exact pu_nilF rfl) ?_))))))))
 refine Lpu rfl rfl ⟨_, rfl, rfl⟩ (pu_fa fa_76_4 rfl) (Lrd rfl rfl ⟨_, rfl, rfl⟩ (rd_ld na_4 rfl (Rdc.cl1 (by repeat constructor) rfl)) ?_)
 refine Lpk rfl rfl rfl (Las rfl rfl (Lnt (Gs.ret ?_)))
 exact Gs.fin1 Tryz.results29 rfl _ (⟨rfl, rfl⟩) (by repeat constructor)
theorem nV_spec (V W : List Int) (rs : List Rec) (hl : V.length ≤ 1000) :
   Ct Tryz.prog 11 [ptr b] [cl b 76 (ndC q id n wall), stA q.st V W rs] (fun v hs => ∃ a c, v = .slice a V.length c ∧ hs = [cl b 76 (ndC q id n wall), stA q.st V W rs, sl 3 1 intC a c V]) := by
 refine Cti Tryz.func11 (by kernel_rfl) 12 Tryz.ntmps11 rfl rfl fun w0 R => ?_
 refine Gsr (Las rfl rfl (Lnt (Gs.seq (Gsr (Lmv rfl rfl (La rfl (asC (nUp_spec b q id n wall)) ?_))))))
 rintro _ _ ⟨_, ⟨rfl, rfl⟩, rfl⟩
 refine Lq rfl (pu_not rfl) (Lnt (Gs.cond_ff rfl rfl (Gs.skip (Gn (Gsr (Lmv rfl rfl (Lq rfl (by first | exact pu_nil rfl | exact pu_nilF rfl) ?_)))))))
 refine Lq rfl (pu_fa fa_76_0 rfl) (Lq rfl (pu_fa fa_74_0 rfl) (Lr rfl (rd_ld na_67 rfl (Rdc.cl1 (by repeat constructor) rfl)) ?_))
 refine La rfl (asC (sV_spec q.st V W rs hl)) ?_
 rintro _ _ ⟨_, ⟨va, vc, rfl, rfl⟩, rfl⟩
 refine Las rfl rfl (Lnt (Gs.ret ?_))
 exact Gs.fin1 Tryz.results11 rfl _ (⟨va, vc, rfl, rfl⟩) (by repeat constructor)
theorem nW_spec (V W : List Int) (rs : List Rec) (hl : W.length ≤ 1000) :
   Ct Tryz.prog 42 [ptr b] [cl b 76 (ndC q id n wall), stA q.st V W rs] (fun v hs => ∃ a c, v = .slice a W.length c ∧ hs = [cl b 76 (ndC q id n wall), stA q.st V W rs, sl 3 1 intC a c W]) := by
 refine Cti Tryz.func42 (by kernel_rfl) 12 Tryz.ntmps42 rfl rfl fun w0 R => ?_
 refine Gsr (Las rfl rfl (Lnt (Gs.seq (Gsr (Lmv rfl rfl (La rfl (asC (nUp_spec b q id n wall)) ?_))))))
 rintro _ _ ⟨_, ⟨rfl, rfl⟩, rfl⟩
 refine Lq rfl (pu_not rfl) (Lnt (Gs.cond_ff rfl rfl (Gs.skip (Gn (Gsr (Lmv rfl rfl (Lq rfl (by first | exact pu_nil rfl | exact pu_nilF rfl) ?_)))))))
 refine Lq rfl (pu_fa fa_76_0 rfl) (Lq rfl (pu_fa fa_74_0 rfl) (Lr rfl (rd_ld na_67 rfl (Rdc.cl1 (by repeat constructor) rfl)) ?_))
 refine La rfl (asC (sW_spec q.st V W rs hl)) ?_
 rintro _ _ ⟨_, ⟨va, vc, rfl, rfl⟩, rfl⟩
 refine Las rfl rfl (Lnt (Gs.ret ?_))
 exact Gs.fin1 Tryz.results42 rfl _ (⟨va, vc, rfl, rfl⟩) (by repeat constructor)
theorem nRecords_spec {N : Nat} {V W : List Int} {rs : List Rec} (h : StOk N V W rs) (h8 : N ≤ 8) :
   Ct Tryz.prog 12 [ptr b] [cl b 76 (ndC q id n wall), stA q.st V W rs]
     (fun v hs => ∃ a c, v = .slice a (ofR rs (lackK V W W)).length c ∧ hs = [cl b 76 (ndC q id n wall), stA q.st V W rs, sl 50 5 recC a c (ofR rs (lackK V W W))]) := by
 refine Cti Tryz.func12 (by kernel_rfl) 12 Tryz.ntmps12 rfl rfl fun w0 R => ?_
 refine Gsr (Las rfl rfl (Lnt (Gs.seq (Gsr (Lmv rfl rfl (La rfl (asC (nUp_spec b q id n wall)) ?_))))))
 rintro _ _ ⟨_, ⟨rfl, rfl⟩, rfl⟩
 refine Lq rfl (pu_not rfl) (Lnt (Gs.cond_ff rfl rfl (Gs.skip (Gn (Gsr (Lmv rfl rfl (Lq rfl (by first | exact pu_nil rfl | exact pu_nilF rfl) ?_)))))))
 refine Lq rfl (pu_fa fa_76_0 rfl) (Lq rfl (pu_fa fa_74_0 rfl) (Lr rfl (rd_ld na_67 rfl (Rdc.cl1 (by repeat constructor) rfl)) ?_))
 refine La rfl (asC (srecords_spec q.st h h8)) ?_
 rintro _ _ ⟨_, ⟨va, vc, rfl, rfl⟩, rfl⟩
 refine Las rfl rfl (Lnt (Gs.ret ?_))
 exact Gs.fin1 Tryz.results12 rfl _ (⟨va, vc, rfl, rfl⟩) (by repeat constructor)
theorem nLast_spec (l : Int × Int) :
   Ct Tryz.prog 26 [ptr b] [cl b 76 (ndC q id n wall), cl q.ck 116 (clC l)] (fun v hs => v = stV l ∧ hs = [cl b 76 (ndC q id n wall), cl q.ck 116 (clC l)]) := by
 refine Cti Tryz.func26 (by kernel_rfl) 13 Tryz.ntmps26 rfl rfl fun w0 R => ?_
 refine Gsr (La rfl (ac_alloc zv_48 rfl) ?_)
 rintro _ _ ⟨ob, rfl, rfl⟩
 refine Lnt (Gs.seq (Gsr (Lmv rfl rfl (La rfl (asC (nUp_spec b q id n wall)) ?_))))
 rintro _ _ ⟨_, ⟨rfl, rfl⟩, rfl⟩
 refine Lq rfl (pu_not rfl) (Lnt (Gs.cond_ff rfl rfl (Gs.skip (Gn (Gsr (Lmv rfl rfl (Lq rfl (by first | exact pu_nil rfl | exact pu_nilF rfl) ?_)))))))
 refine Lq rfl (pu_fa fa_76_0 rfl) (Lq rfl (pu_fa fa_74_1 rfl) (Lr rfl (rd_ld na_68 rfl (Rdc.cl1 (by repeat constructor) rfl)) ?_))
 refine La rfl (asC (clast_spec q.ck l)) ?_
 rintro _ _ ⟨_, ⟨rfl, rfl⟩, rfl⟩
 refine Lac0 rfl trivial (ac_st sz_48 rfl rfl (by repeat constructor) rfl rfl rfl rfl) ?_
 rintro _ _ rfl
 refine Lnt (Gs.ret ?_)
 exact Gs.finc1 Tryz.results26 ag_48 rfl (Rdc.cl 2 (by repeat constructor) rfl) rfl _ (⟨rfl, rfl⟩) (by repeat constructor)
theorem nWaiting_spec (L : List Rec) (hL : L.length ≤ 1000) :
   Ct Tryz.prog 24 [ptr b] [cl b 76 (ndC q id n wall), cl q.he 136 (heldC 12 q.mh), mp keyV recV q.mh (ents L)]
     (fun v hs => ∃ a c, v = .slice a (sortK (L.map Rec.key)).length c ∧ hs = [cl b 76 (ndC q id n wall), cl q.he 136 (heldC 12 q.mh), mp keyV recV q.mh (ents L), sl 35 2 keyC a c (sortK (L.map Rec.key))]) := by
 refine Cti Tryz.func24 (by kernel_rfl) 12 Tryz.ntmps24 rfl rfl fun w0 R => ?_
 refine Gsr (Las rfl rfl (Lnt (Gs.seq (Gsr (Lmv rfl rfl (La rfl (asC (nUp_spec b q id n wall)) ?_))))))
 rintro _ _ ⟨_, ⟨rfl, rfl⟩, rfl⟩
 refine Lq rfl (pu_not rfl) (Lnt (Gs.cond_ff rfl rfl (Gs.skip (Gn (Gsr (Lmv rfl rfl (Lq rfl (by first | exact pu_nil rfl | exact pu_nilF rfl) ?_)))))))
 refine Lq rfl (pu_fa fa_76_0 rfl) (Lq rfl (pu_fa fa_74_4 rfl) (Lr rfl (rd_ld na_71 rfl (Rdc.cl1 (by repeat constructor) rfl)) ?_))
 refine La rfl (asC (keys_specH q.he q.mh 12 L hL)) ?_
 rintro _ _ ⟨_, ⟨va, vc, rfl, rfl⟩, rfl⟩
 refine Las rfl rfl (Lnt (Gs.ret ?_))
 exact Gs.fin1 Tryz.results24 rfl _ (⟨va, vc, rfl, rfl⟩) (by repeat constructor)
end
end Go.Proofs.YtflfhpokmidnmaaGreatDoor
