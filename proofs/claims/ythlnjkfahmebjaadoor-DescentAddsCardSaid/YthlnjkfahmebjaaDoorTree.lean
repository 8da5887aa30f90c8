/- Walks: tree. -/
import Derived.Test.YthlnjkfahmebjaaDoorTv
namespace Go.Proofs.YthlnjkfahmebjaaDoor
open Go Go.Sl Go.Gv Go.Kv
set_option maxRecDepth 100000
abbrev ptr (b : Nat) : Value := .pointer (some ⟨b, 0, none⟩)
abbrev partC (p : Part) : List Value := [int p.o, int p.l, int p.i]
abbrev partV (p : Part) : Value := .agg (partC p).toArray
abbrev leafC (x : Rec × Int) : List Value := [.int .i64 x.1.o, .int .i64 x.1.q, .int .i64 x.1.w, .int .i64 x.1.c, .string x.1.t, .int .u64 x.2]
abbrev leafV (x : Rec × Int) : Value := .agg (leafC x).toArray
theorem cmp_100 : CmpT Tryd.prog 100 partV 2 :=
  CmpT.of (fun k : Part => (k.o, k.l, k.i)) (fun a b => by cases a; cases b; simp) (fun _ => rfl)
    (cmp_iii Tryd.underlying100 Tryd.stoodInHeld100 ⟨by decide, by decide, by decide⟩ ⟨⟨rfl, rfl, rfl⟩, rfl, rfl, rfl⟩ Tryd.underlying3 na_3)
theorem kt_100 : KeyT Tryd.prog 100 partV :=
  KeyT.struct Tryd.underlying100 cmp_100 (by decide) (fun e k w => check_struct Tryd.underlying100 (by
    intro f hf
    simp only [List.mem_cons, List.not_mem_nil, or_false] at hf
    rcases hf with rfl | rfl | rfl
    · exact ⟨_, part_na na_3 rfl, check_int Tryd.underlying3⟩
    · exact ⟨_, part_na na_3 rfl, check_int Tryd.underlying3⟩
    · exact ⟨_, part_na na_3 rfl, check_int Tryd.underlying3⟩)) (fun k => by simp [Instr.sameBits])
abbrev enck_100 : Part → Value := partV
abbrev encv_3 : Int → Value := int
abbrev encv_87 : Rec × Int → Value := leafV
theorem zvk_3 : ZV Tryd.prog 3 (int 0) := zv_3
theorem zvk_87 : ZV Tryd.prog 87 (leafV (Rec.zero, 0)) := zv_87
abbrev treeC (m1 m2 : Nat) : List Value := [.map (some m1), .map (some m2)]
def tre (b : Nat) (L : List Rec) : HProp := fun h => ∃ y : Nat × Nat × List (Part × Int), (TOk L ∧ COk y.2.2 L) ∧ two (cl b 80 (treeC y.1 y.2.1)) (two (mp keyV leafV y.1 (lents L)) (mp partV int y.2.1 y.2.2)) h
section
variable {w0 : World} {n : Nat} {env : Env} {H : List HProp} {X : Act → World → Prop}
theorem Gs.treOpen {b : Nat} {L : List Rec} {H' : List HProp} (t : Take (tre b L) H H')
    (g : ∀ m1 m2 C, TOk L → COk C L → Gs w0 n env (cl b 80 (treeC m1 m2) :: mp keyV leafV m1 (lents L) :: mp partV int m2 C :: H') X) : Gs w0 n env H X := fun a w e s => by
  obtain ⟨⟨m1, m2, C⟩, s1⟩ := (s.take t).ex
  obtain ⟨⟨h1, h2⟩, s2⟩ := s1.pure
  have s3 := (Sat.two.1 s2).take (.tl .hd)
  exact g m1 m2 C h1 h2 a w e ((Sat.two.1 s3).takes (As := [cl b 80 (treeC m1 m2), mp keyV leafV m1 (lents L), mp partV int m2 C]) (by repeat constructor))
theorem Gs.treClose {b m1 m2 : Nat} {L : List Rec} {C : List (Part × Int)} {H' : List HProp} (t : Takes [cl b 80 (treeC m1 m2), mp keyV leafV m1 (lents L), mp partV int m2 C] H H') (h1 : TOk L) (h2 : COk C L)
    (g : Gs w0 n env (tre b L :: H') X) : Gs w0 n env H X := fun a w e s => by
  have s1 := s.takes t
  have s2 : Sat w0 w (two (mp keyV leafV m1 (lents L)) (mp partV int m2 C) :: cl b 80 (treeC m1 m2) :: H') := Sat.two.2 (s1.takes (As := [mp keyV leafV m1 (lents L), mp partV int m2 C, cl b 80 (treeC m1 m2)]) (by repeat constructor))
  have s3 := Sat.two.2 (s2.take (.tl .hd))
  exact g a w e (s3.ent fun h x => ⟨(m1, m2, C), ⟨h1, h2⟩, x⟩)
theorem Gs.treOk {b : Nat} {L : List Rec} {H' : List HProp} (t : Take (tre b L) H H') (g : TOk L → Gs w0 n env H X) : Gs w0 n env H X := fun a w e s => by
  obtain ⟨y, s1⟩ := (s.take t).ex
  exact g s1.pure.1.1 a w e s
end
theorem treNew_spec : Ct Tryd.prog 22 [] [] (fun v hs => ∃ b, v = ptr b ∧ hs = [tre b []]) := by
  refine Ct.intro Tryd.func22 rfl (by kernel_rfl) 5 Tryd.ntmps22 (Nat.le_of_ble_eq_true rfl) fun w0 R => ?_
  refine Gs.seq ?_
  refine Gs.reg ?_
  refine Go.Sl.L.pu rfl rfl trivial (pu_assign rfl) ?_
  refine Go.Sl.L.nil ?_
  refine Gs.then_n ?_
  refine Gs.seq ?_
  refine Gs.reg ?_
  refine Go.Sl.L.ac rfl rfl trivial (ac_mkmap enck_38 encv_87) ?_
  rintro _ _ ⟨m1, rfl, rfl⟩
  refine Go.Sl.L.ac rfl rfl trivial (ac_mkmap enck_100 encv_3) ?_
  rintro _ _ ⟨m2, rfl, rfl⟩
  refine Go.Sl.L.pu rfl rfl trivial (pu_build bd_80 (by repeat constructor) rfl) ?_
  refine Go.Sl.L.ac rfl rfl trivial (ac_box rfl rfl) ?_
  rintro _ _ ⟨b, rfl, rfl⟩
  refine Go.Sl.L.pu rfl rfl trivial (pu_assign rfl) ?_
  refine Go.Sl.L.nil ?_
  refine Gs.then_n ?_
  refine Gs.ret ?_
  refine Gs.treClose (L := []) (by repeat constructor) TOk.nil COk.nil ?_
  exact Gs.fin1 Tryd.results22 rfl _ (⟨b, rfl, rfl⟩) (by repeat constructor)
theorem COk.bound {C : List (Part × Int)} {L : List Rec} (h : COk C L) (hl : L.length ≤ 300000) (key : Key) : ∀ p, onP key p = true → -1000000 ≤ cv C p ∧ cv C p ≤ 1000000 := fun p hp => by
  obtain ⟨o, l, i⟩ := p
  simp only [onP, Bool.and_eq_true, decide_eq_true_eq] at hp
  have h1 := h o i (5 - l).toNat (by omega)
  rw [show (5 - ((5 - l).toNat : Int)) = l by omega] at h1
  have h2 := cnt_le L o (5 - l).toNat i
  rw [h1]; omega
theorem cv_put (D : List (Part × Int)) (k : Part) (v : Int) (p : Part) : cv (mput D k v) p = if p = k then v else cv D p := by
  unfold cv; rw [mget_put]; split <;> rfl
theorem count_step {C D : List (Part × Int)} {key : Key} {by' i : Int} {j : Nat} (hj : j ≤ 6) (hlt : j < 6) (hi : i = key.q / 4 ^ j) (hD : ∀ p, cv D p = cv C p + if onP key p ∧ 5 - p.l < (j : Int) then by' else 0)
    (hnow : cv D ⟨key.o, 5 - (j : Int), i⟩ = cv C ⟨key.o, 5 - (j : Int), i⟩) : ∀ p, cv (mput D ⟨key.o, 5 - (j : Int), i⟩ ((mget D ⟨key.o, 5 - (j : Int), i⟩).getD 0 + by')) p = cv C p + if onP key p ∧ 5 - p.l < ((j + 1 : Nat) : Int) then by' else 0 := by
  intro p
  rw [cv_put]
  have h5 : (5 - (5 - (j : Int))).toNat = j := by omega
  by_cases hp : p = ⟨key.o, 5 - (j : Int), i⟩
  · subst hp
    rw [if_pos rfl, if_pos]
    · show cv D ⟨key.o, 5 - (j : Int), i⟩ + by' = _
      rw [hnow]
    · refine ⟨?_, by dsimp only; omega⟩
      simp only [onP, h5, Bool.and_eq_true, decide_eq_true_eq]
      exact ⟨⟨⟨trivial, by omega⟩, by omega⟩, hi⟩
  · rw [if_neg hp, hD p]
    congr 1
    by_cases h : onP key p = true ∧ 5 - p.l < (j : Int)
    · rw [if_pos h, if_pos ⟨h.1, by have := h.2; omega⟩]
    · rw [if_neg h, if_neg]
      rintro ⟨h1, h2⟩
      apply h
      refine ⟨h1, ?_⟩
      apply Classical.byContradiction
      intro h3
      apply hp
      obtain ⟨po, pl, pi⟩ := p
      simp only [onP, Bool.and_eq_true, decide_eq_true_eq] at h1
      dsimp only at h1 h2 h3
      have e1 : pl = 5 - (j : Int) := by omega
      subst e1
      rw [h5] at h1
      rw [h1.1.1.1, h1.2, hi]
theorem count_spec (b m1 m2 : Nat) (C : List (Part × Int)) (key : Key) (by' : Int) (hq : 0 ≤ key.q) (hq2 : key.q ≤ 100000) (hb : by' = 1 ∨ by' = -1) (hC : ∀ p, onP key p = true → -1000000 ≤ cv C p ∧ cv C p ≤ 1000000) :
    Ct Tryd.prog 41 [ptr b, keyV key, int by'] [cl b 80 (treeC m1 m2), mp partV int m2 C]
      (fun v hs => ∃ C', v = .tuple #[] ∧ hs = [cl b 80 (treeC m1 m2), mp partV int m2 C'] ∧ ∀ p, cv C' p = cv C p + if onP key p then by' else 0) := by
  refine Ct.intro Tryd.func41 rfl (by kernel_rfl) 30 Tryd.ntmps41 (Nat.le_of_ble_eq_true rfl) fun w0 R => ?_
  refine Gs.seq ?_
  refine Gs.reg ?_
  refine Go.Sl.L.ac rfl rfl trivial (ac_box rfl rfl) ?_
  rintro _ _ ⟨kb, rfl, rfl⟩
  refine Go.Sl.L.nil ?_
  refine Gs.then_n ?_
  refine Gs.seq ?_
  refine Gs.reg ?_
  refine Go.Sl.L.pu rfl rfl trivial (pu_fa fa_38_1 rfl) ?_
  refine Go.Sl.L.rd rfl rfl trivial (rd_ld na_3 rfl (Rdc.cl1 (by repeat constructor) rfl)) ?_
  refine Go.Sl.L.pu rfl rfl trivial (pu_assign rfl) ?_
  refine Go.Sl.L.nil ?_
  refine Gs.then_n ?_
  refine Gs.seq ?_
  refine Gs.reg ?_
  refine Go.Sl.L.pu rfl rfl trivial (pu_assign rfl) ?_
  refine Go.Sl.L.nil ?_
  refine Gs.then_n ?_
  refine Gs.block ?_
  refine Gs.loop1 (fun s : Nat × Int × List (Part × Int) => s.1 ≤ 6 ∧ s.2.1 = key.q / 4 ^ s.1 ∧ ∀ p, cv s.2.2 p = cv C p + if onP key p ∧ 5 - p.l < s.1 then by' else 0) (fun s => [(0, ptr b), (2, int by'), (4, ptr kb), (6, int s.2.1), (7, int (5 - (s.1 : Int)))]) (fun s => [cl b 80 (treeC m1 m2), mp partV int m2 s.2.2, cl kb 38 (keyC key)] ++ R) (fun s => 6 - s.1) (0, key.q, C) (⟨Nat.zero_le _, by simp, fun p => by rw [if_neg (by simp only [onP, Bool.and_eq_true, decide_eq_true_eq]; omega)]; exact (Int.add_zero _).symm⟩) (by repeat constructor) (by repeat constructor) (fun s hs => ?_)
  obtain ⟨j, i, D⟩ := s
  obtain ⟨hj, hi, hD⟩ := hs
  dsimp only at hj hi hD ⊢
  refine Gs.seq ?_
  refine Gs.seq ?_
  refine Gs.reg ?_
  refine Go.Sl.L.pu rfl rfl trivial (pu_move rfl) ?_
  refine Go.Sl.L.pu rfl rfl trivial (pu_ge rfl rfl) ?_
  refine Go.Sl.L.nil ?_
  refine Gs.then_n ?_
  refine Gs.cond rfl (fun hc0 => ?_) (fun hc0 => ?_)
  · skip
    have hlt : j < 6 := by have := of_decide_eq_true hc0; omega
    have hi0 : 0 ≤ i := by rw [hi]; exact Int.ediv_nonneg hq (Int.le_of_lt (Int.pow_pos (by decide)))
    have hi1 : i ≤ 100000 := by rw [hi]; exact Int.le_trans (Int.ediv_le_self _ hq) hq2
    have hD0 := hD ⟨key.o, 5 - (j : Int), i⟩
    have hon : onP key ⟨key.o, 5 - (j : Int), i⟩ = true := by
      have h5 : (5 - (5 - (j : Int))).toNat = j := by omega
      simp only [onP, h5, Bool.and_eq_true, decide_eq_true_eq]
      exact ⟨⟨⟨trivial, by omega⟩, by omega⟩, hi⟩
    have hC0 := hC ⟨key.o, 5 - (j : Int), i⟩ hon
    have hnow : cv D ⟨key.o, 5 - (j : Int), i⟩ = cv C ⟨key.o, 5 - (j : Int), i⟩ := by rw [hD0, if_neg (by simp only [onP, Bool.and_eq_true, decide_eq_true_eq]; omega)]; omega
    have hcv : -1000000 ≤ (mget D ⟨key.o, 5 - (j : Int), i⟩).getD 0 ∧ (mget D ⟨key.o, 5 - (j : Int), i⟩).getD 0 ≤ 1000000 := by have : (mget D ⟨key.o, 5 - (j : Int), i⟩).getD 0 = cv C ⟨key.o, 5 - (j : Int), i⟩ := hnow; omega
    have hnext := count_step hj hlt hi hD hnow
    have hdiv : IntKind.i64.wrap (i.tdiv 4) = key.q / 4 ^ (j + 1) := by
      rw [Int.tdiv_eq_ediv_of_nonneg hi0, wrap_in (by omega) (by omega), hi, Int.pow_succ, Int.ediv_ediv, if_neg (fun h => by have := Int.pow_pos (n := 4) (m := j) (by decide); omega), Int.sub_zero]
    refine Gs.skip ?_
    refine Gs.then_n ?_
    refine Gs.seq ?_
    refine Gs.block ?_
    refine Gs.seq ?_
    refine Gs.regD mixed (by kernel_rfl) ?_
    refine Rg.pu 0 rfl rfl (by kernel_rfl) trivial (pu_move rfl) ?_
    refine Rg.pu 1 rfl rfl (by kernel_rfl) trivial (by first | exact pu_nil rfl | exact pu_nilF rfl) ?_
    refine Rg.pu 2 rfl rfl (by kernel_rfl) trivial (pu_fa fa_80_1 rfl) ?_
    refine Rg.rd 3 rfl rfl (by kernel_rfl) trivial (rd_ld na_78 rfl (Rdc.cl1 (by repeat constructor) rfl)) ?_
    refine Rg.pu 4 rfl rfl (by kernel_rfl) trivial (pu_fa fa_38_0 rfl) ?_
    refine Rg.rd 5 rfl rfl (by kernel_rfl) trivial (rd_ld na_3 rfl (Rdc.cl1 (by repeat constructor) rfl)) ?_
    refine Rg.pu 6 rfl rfl (by kernel_rfl) trivial (pu_move rfl) ?_
    refine Rg.pu 7 rfl rfl (by kernel_rfl) trivial (pu_move rfl) ?_
    refine Rg.pu 8 rfl rfl (by kernel_rfl) trivial (pu_build bd_100 (by repeat constructor) rfl) ?_
    refine Rg.rd 9 rfl rfl (by kernel_rfl) trivial (rd_lookE rfl rfl (by first | (apply LkH.mp (enck := partV) (encv := int) (m := D) (k := ⟨key.o, 5 - (j : Int), i⟩) (z := 0) Tryd.underlying78 kt_100 zvk_3; (repeat constructor); done) | (apply LkH.mpS (enck := partV) (encv := int) (m := D) (k := ⟨key.o, 5 - (j : Int), i⟩) (z := 0) Tryd.underlying78 kt_100 zvk_3; (repeat constructor); done))) ?_
    refine Rg.pu 10 rfl rfl (by kernel_rfl) trivial (pu_move rfl) ?_
    refine Rg.pu 11 rfl rfl (by kernel_rfl) trivial (pu_addI (z := (mget D ⟨key.o, 5 - (j : Int), i⟩).getD 0 + by') rfl rfl rfl (by omega) (by omega)) ?_
    refine Rg.one (by kernel_rfl) (Stp.acR 12 [9] rfl rfl (by kernel_rfl) trivial (ac_mapEntry (enck := partV) (encv := int) (m := D) (k := ⟨key.o, 5 - (j : Int), i⟩) (z := 0) Tryd.underlying78 kt_100 zvk_3 rfl rfl (by repeat constructor)) (by rintro _ _ ⟨st, rfl, rfl⟩; exact (Reads.cons rfl rfl rfl trivial rfl (rd_lookE rfl rfl (by first | (apply LkH.mp (enck := partV) (encv := int) (m := D) (k := ⟨key.o, 5 - (j : Int), i⟩) (z := 0) Tryd.underlying78 kt_100 zvk_3; (repeat constructor); done) | (apply LkH.mpS (enck := partV) (encv := int) (m := D) (k := ⟨key.o, 5 - (j : Int), i⟩) (z := 0) Tryd.underlying78 kt_100 zvk_3; (repeat constructor); done))) Reads.nil)) ?_)
    rintro _ _ ⟨st, rfl, rfl⟩
    refine Rg.pu 13 rfl rfl (by kernel_rfl) trivial (pu_extract rfl rfl) ?_
    refine Rg.one (by kernel_rfl) (Stp.ac0 14 rfl rfl (by kernel_rfl) trivial (ac_entryStore (enck := partV) (encv := int) (m := D) (k := ⟨key.o, 5 - (j : Int), i⟩) (z := 0) (v := (mget D ⟨key.o, 5 - (j : Int), i⟩).getD 0 + by') rfl rfl rfl (by repeat constructor))  ?_)
    rintro _ _ rfl
    refine Rg.end (by kernel_rfl) ?_
    refine Gs.then_n ?_
    refine Gs.reg ?_
    refine Go.Sl.L.pu rfl rfl trivial (pu_move rfl) ?_
    refine Go.Sl.L.pu rfl rfl trivial (pu_quo rfl rfl (by omega)) ?_
    refine Go.Sl.L.pu rfl rfl trivial (pu_assign rfl) ?_
    refine Go.Sl.L.nil ?_
    rw [hdiv]
    refine Gs.blk_n ?_
    refine Gs.then_n ?_
    refine Gs.reg ?_
    refine Go.Sl.L.pu rfl rfl trivial (pu_move rfl) ?_
    refine Go.Sl.L.pu rfl rfl trivial (pu_subI (z := 5 - ((j + 1 : Nat) : Int)) rfl rfl (by omega) (by omega) (by omega)) ?_
    refine Go.Sl.L.pu rfl rfl trivial (pu_assign rfl) ?_
    refine Go.Sl.L.nil ?_
    refine Gs.then_n ?_
    exact Gs.again1 (j + 1, key.q / 4 ^ (j + 1), mput D ⟨key.o, 5 - (j : Int), i⟩ ((mget D ⟨key.o, 5 - (j : Int), i⟩).getD 0 + by')) ⟨by show j + 1 ≤ 6; omega, rfl, hnext⟩ (by show 6 - (j + 1) < 6 - j; omega) (by repeat constructor) (by repeat constructor)
  · skip
    have hge : j = 6 := by have := of_decide_eq_false hc0; omega
    have hfin : ∀ p, cv D p = cv C p + if onP key p then by' else 0 := fun p => by
      rw [hD p]
      congr 1
      by_cases h : onP key p = true
      · rw [if_pos h, if_pos ⟨h, by simp only [onP, Bool.and_eq_true, decide_eq_true_eq] at h; omega⟩]
      · rw [if_neg h, if_neg (fun h' => h h'.1)]
    refine Gs.exit ?_
    refine Gs.then_x ?_
    refine Gs.then_x ?_
    refine Gs.blk_hit ?_
    refine Gs.fin_n ?_
    exact Gs.fin0 Tryd.results41 _ (⟨D, rfl, rfl, hfin⟩) (by repeat constructor)
end Go.Proofs.YthlnjkfahmebjaaDoor
