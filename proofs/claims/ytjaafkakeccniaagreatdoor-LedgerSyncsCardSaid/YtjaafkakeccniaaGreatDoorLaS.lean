/- Walk: LedgerSyncs. Two ledgers that get the same entries hold the same ones, whenever one is synced or opened anew. -/
import Derived.Test.YtjaafkakeccniaaGreatDoorML
namespace Go.Sl
open Go Go.ChangeShapes
def andK (k : IntKind) (i j : Int) : Int := k.wrap (BitVec.ofInt k.bits i &&& BitVec.ofInt k.bits j).toNat
theorem pu_and {P : Program} {env : Env} {d : Option Tmp} {x y : Operand} {ty T T' : TypeId} {pos : String} {af : Array Edge} {g : Option (Nat × Bool)} {k : IntKind} {i j : Int} (h : ev env x = some (.int k i)) (h' : ev env y = some (.int k j)) : Pu P ⟨d, .binOp .and T x y T', ty, pos, af, g⟩ env (.int k (andK k i j)) := fun ρ w e => by
  refine run_v (s := do eqGuard .and T x y (ρ x) (ρ y); binOp .and T (ρ x) (ρ y)) ?_
  rw [e.eval h, e.eval h']
  simp only [Sem.run_bind, eqGuard_int, Result.andThen_ok]
  simp [binOp, Op.intBits, andK]
end Go.Sl
namespace Go.Proofs.YtjaafkakeccniaaGreatDoor
open Go Go.Sl Go.Gv Go.Dv Go.Bst
set_option maxRecDepth 100000
def synB : Bool → List Seg → List Seg
  | true, xs => xs.map syn
  | false, xs => xs
theorem es_len {xs ys : List Seg} (h : xs.map Seg.es = ys.map Seg.es) : xs.length = ys.length := by have := congrArg List.length h; simpa using this
theorem es_used {xs ys : List Seg} (h : xs.map Seg.es = ys.map Seg.es) : usedS xs = usedS ys := by
  have e : ∀ zs : List Seg, usedS zs = ((zs.map Seg.es).map fun es => (layS es).length).sum := fun zs => by unfold usedS; rw [List.map_map]; rfl
  rw [e, e, h]
theorem es_flat {xs ys : List Seg} (h : xs.map Seg.es = ys.map Seg.es) : flatS xs = flatS ys := by
  have e : ∀ zs : List Seg, flatS zs = (zs.map Seg.es).flatten := fun zs => by unfold flatS; rw [List.flatMap_def]
  rw [e, e, h]
theorem syn_es (xs : List Seg) : (xs.map syn).map Seg.es = xs.map Seg.es := by rw [List.map_map]; rfl
theorem synB_es (b : Bool) (xs : List Seg) : (synB b xs).map Seg.es = xs.map Seg.es := by cases b; rfl; exact syn_es xs
theorem synB_segP (n : Int) (b : Bool) (xs : List Seg) : (synB b xs).map (segP n) = xs.map (segP n) := by cases b; rfl; exact syn_segP n xs
theorem synB_st {n : Int} {made : Nat} {xs : List Seg} (b : Bool) (h : St n made xs) : St n made (synB b xs) := by cases b; exact h; exact syn_st h
theorem wS_es {most n : Int} {m1 m2 : Nat} {xs ys : List Seg} {e : EntP} {v w : List Int} (h1 : St n m1 xs) (h2 : St n m2 ys) (h : xs.map Seg.es = ys.map Seg.es) (hw : mayW n e v w = true)
    (c1 : (wS most n m1 xs e v w).e = 0) (c2 : (wS most n m2 ys e v w).e = 0) : (wS most n m1 xs e v w).xs.map Seg.es = (wS most n m2 ys e v w).xs.map Seg.es := by
  obtain ⟨X, x, rfl⟩ := last_of h1.ne
  obtain ⟨Y, y, rfl⟩ := last_of h2.ne
  have hu := es_used h
  have hl := es_len h
  simp only [List.map_append, List.map_cons, List.map_nil] at h
  have hl2 : X.length = Y.length := by simpa using hl
  obtain ⟨hX, hx⟩ := List.append_inj h (by simpa using hl2)
  have hx : x.es = y.es := by simpa using hx
  rw [wS_yes hw] at c1 c2 ⊢
  rw [wS_yes hw]
  unfold wrS at c1 c2 ⊢
  rw [← hx, ← hu] at c2 ⊢
  by_cases h4 : (layS x.es).length < 400
  · rw [if_pos h4] at c1 c2 ⊢
    rw [if_pos h4]
    by_cases h8 : most < usedS (X ++ [x]) + (layE e).length
    · rw [if_pos h8] at c1; exact absurd c1 (by simp)
    · rw [if_neg h8, if_neg h8]
      simp [hX]
  · rw [if_neg h4] at c1 c2 ⊢
    rw [if_neg h4]
    by_cases h8 : most < usedS (X ++ [x]) + ((layE (baseE v w)).length + (layE e).length)
    · rw [if_pos h8] at c1; exact absurd c1 (by simp)
    · rw [if_neg h8, if_neg h8]
      simp [hX, hx, syn]
set_option maxHeartbeats 1000000 in
theorem syncs_spec {U : HProp} (hT : RMs U) (s r : Int) {ea : Option Addr} {ec : Nat} {es : List EntV} (hE : ERd U ea es) (hel : es.length ≤ maxLen) :
    Ct Tryz.prog 5 [.slice ea es.length ec, int s, int r] [U] (fun r hs => r = .bool true ∧ hs = [U]) := by
  refine Ct.intro Tryz.func5 rfl (by kernel_rfl) 183 Tryz.ntmps5 (Nat.le_of_ble_eq_true rfl) fun w0 R => ?_
  refine Gs.slAddr (xs := es) (hE.1.h (by repeat constructor)) fun eb eo hea => ?_
  refine Gs.seq ?_
  refine Gs.reg ?_
  refine Go.Sl.L.pu rfl rfl trivial (pu_assign rfl) ?_
  refine Go.Sl.L.nil ?_
  refine Gs.then_n ?_
  refine Gs.seq ?_
  refine Gs.seq ?_
  refine Gs.reg ?_
  refine Go.Sl.L.pu rfl rfl trivial (pu_move rfl) ?_
  refine Go.Sl.L.ac rfl rfl trivial (as_call (great_spec hE.1 hel 30 (by decide)) (by repeat constructor) (by repeat constructor)) ?_
  rintro _ _ ⟨_, ⟨⟨gb, rfl, hgb⟩, rfl⟩, rfl⟩
  refine Go.Sl.L.nil ?_
  refine Gs.then_n ?_
  refine Gs.cond rfl (fun hc0 => ?_) (fun hc0 => ?_)
  · skip
    refine Gs.seq ?_
    refine Gs.reg ?_
    refine Go.Sl.L.ac rfl rfl trivial (as_call (awake9_spec hT) (by repeat constructor) (by repeat constructor)) ?_
    rintro _ _ ⟨_, ⟨rfl, rfl⟩, rfl⟩
    refine Go.Sl.L.pu rfl rfl trivial (pu_assign rfl) ?_
    refine Go.Sl.L.nil ?_
    refine Gs.then_n ?_
    refine Gs.ret ?_
    refine Gs.then_r ?_
    exact Gs.fin1 Tryz.results5 rfl _ (⟨rfl, rfl⟩) (by repeat constructor)
  · skip
    have hfew := hgb hc0
    have hel30 : es.length ≤ 30 := by have := hfew.1; omega
    refine Gs.skip ?_
    refine Gs.then_n ?_
    refine Gs.seq ?_
    refine Gs.reg ?_
    refine Go.Sl.L.ac rfl rfl trivial (as_call (drvNew_ok 60000 (by decide) (by decide)) (by repeat constructor) (by repeat constructor)) ?_
    rintro _ _ ⟨_, ⟨d1, rfl, rfl⟩, rfl⟩
    refine Go.Sl.L.ac rfl rfl trivial (as_call (drvNew_ok 60000 (by decide) (by decide)) (by repeat constructor) (by repeat constructor)) ?_
    rintro _ _ ⟨_, ⟨d2, rfl, rfl⟩, rfl⟩
    refine Go.Sl.L.pu rfl rfl trivial (pu_assign rfl) ?_
    refine Go.Sl.L.pu rfl rfl trivial (pu_assign rfl) ?_
    refine Go.Sl.L.nil ?_
    refine Gs.then_n ?_
    refine Gs.seq ?_
    refine Gs.reg ?_
    refine Go.Sl.L.pu rfl rfl trivial (pu_move rfl) ?_
    refine Go.Sl.L.ac rfl rfl trivial (as_call (openNew_spec (d := d1) (n := 2) (most := 60000) hT (by decide) (by decide) (by decide)) (by repeat constructor) (by repeat constructor)) ?_
    rintro _ _ ⟨_, ⟨g1, oa, oc, os, rfl, hos, rfl⟩, rfl⟩
    refine Go.Sl.L.pu rfl rfl trivial (pu_move rfl) ?_
    refine Go.Sl.L.pu rfl rfl trivial (pu_extract rfl rfl) ?_
    refine Go.Sl.L.pu rfl rfl trivial (pu_extract rfl rfl) ?_
    refine Go.Sl.L.pu rfl rfl trivial (pu_extract rfl rfl) ?_
    refine Go.Sl.L.pu rfl rfl trivial (pu_assign rfl) ?_
    refine Go.Sl.L.pu rfl rfl trivial (pu_assign rfl) ?_
    refine Go.Sl.L.pu rfl rfl trivial (pu_assign rfl) ?_
    refine Go.Sl.L.nil ?_
    refine Gs.then_n ?_
    refine Gs.seq ?_
    refine Gs.reg ?_
    refine Go.Sl.L.pu rfl rfl trivial (pu_move rfl) ?_
    refine Go.Sl.L.ac rfl rfl trivial (as_call (openNew_spec (d := d2) (n := 2) (most := 60000) hT (by decide) (by decide) (by decide)) (by repeat constructor) (by repeat constructor)) ?_
    rintro _ _ ⟨_, ⟨g2, pa, pc, ps, rfl, hps, rfl⟩, rfl⟩
    refine Go.Sl.L.pu rfl rfl trivial (pu_move rfl) ?_
    refine Go.Sl.L.pu rfl rfl trivial (pu_extract rfl rfl) ?_
    refine Go.Sl.L.pu rfl rfl trivial (pu_extract rfl rfl) ?_
    refine Go.Sl.L.pu rfl rfl trivial (pu_extract rfl rfl) ?_
    refine Go.Sl.L.pu rfl rfl trivial (pu_assign rfl) ?_
    refine Go.Sl.L.pu rfl rfl trivial (pu_assign rfl) ?_
    refine Go.Sl.L.pu rfl rfl trivial (pu_assign rfl) ?_
    refine Go.Sl.L.nil ?_
    refine Gs.then_n ?_
    refine Gs.seq ?_
    refine Gs.seq ?_
    refine Gs.reg ?_
    refine Go.Sl.L.pu rfl rfl trivial (pu_move rfl) ?_
    refine Go.Sl.L.pu rfl rfl trivial (pu_eqN Tryz.underlying28 rfl rfl) ?_
    refine Go.Sl.L.puBf rfl rfl trivial (pu_move rfl) rfl ?_
    refine Go.Sl.L.pu rfl rfl ⟨_, rfl, rfl⟩ (pu_move rfl) ?_
    refine Go.Sl.L.pu rfl rfl ⟨_, rfl, rfl⟩ (pu_eqN Tryz.underlying28 rfl rfl) ?_
    refine Go.Sl.L.pu rfl rfl trivial (by first | exact pu_pick_t rfl rfl | exact pu_pick_f rfl rfl) ?_
    refine Go.Sl.L.puBf rfl rfl trivial (pu_move rfl) rfl ?_
    refine Go.Sl.L.pu rfl rfl ⟨_, rfl, rfl⟩ (pu_move rfl) ?_
    refine Go.Sl.L.pu rfl rfl ⟨_, rfl, rfl⟩ (pu_ne rfl rfl) ?_
    refine Go.Sl.L.pu rfl rfl trivial (by first | exact pu_pick_t rfl rfl | exact pu_pick_f rfl rfl) ?_
    refine Go.Sl.L.puBf rfl rfl trivial (pu_move rfl) rfl ?_
    refine Go.Sl.L.pu rfl rfl ⟨_, rfl, rfl⟩ (pu_move rfl) ?_
    refine Go.Sl.L.pu rfl rfl ⟨_, rfl, rfl⟩ (pu_ne rfl rfl) ?_
    refine Go.Sl.L.pu rfl rfl trivial (by first | exact pu_pick_t rfl rfl | exact pu_pick_f rfl rfl) ?_
    refine Go.Sl.L.nil ?_
    refine Gs.then_n ?_
    refine Gs.cond_ff rfl rfl ?_
    refine Gs.skip ?_
    refine Gs.then_n ?_
    refine Gs.seq ?_
    have hst0 : St 2 1 [newSeg 2 1] := newSeg_st (by decide) (by decide) (by decide)
    have hu0 : usedS [newSeg 2 1] ≤ 46 := by
      have e : layS [zeroB 2] = layE (zeroB 2) := by simp [layS]
      show (layS [zeroB 2]).length + 0 ≤ 46
      rw [e]; exact zeroB_len (by decide) (by decide)
    refine Gs.reg ?_
    refine Go.Sl.L.ac rfl rfl trivial (ac_lit encC_3 ([(9 : Int), 9]) et_23 ek_3 rfl (by repeat constructor) rfl rfl (by decide)) ?_
    rintro _ _ ⟨a54, rfl, rfl⟩
    refine Go.Sl.L.pu rfl rfl trivial (pu_assign rfl) ?_
    refine Go.Sl.L.nil ?_
    refine Gs.then_n ?_
    refine Gs.seq ?_
    refine Gs.reg ?_
    refine Go.Sl.L.pu rfl rfl trivial (pu_assign rfl) ?_
    refine Go.Sl.L.nil ?_
    refine Gs.then_n ?_
    refine Gs.seq ?_
    refine Gs.seq ?_
    refine Gs.reg ?_
    refine Go.Sl.L.pu rfl rfl trivial (pu_assign rfl) ?_
    refine Go.Sl.L.nil ?_
    refine Gs.then_n ?_
    refine Gs.block ?_
    refine Gs.loop1 (fun s : Nat × Nat × Nat × List Seg × Nat × List Seg => St 2 s.2.2.1 s.2.2.2.1 ∧ St 2 s.2.2.2.2.1 s.2.2.2.2.2 ∧ s.2.2.1 ≤ s.1 + 1 ∧ s.2.2.2.2.1 ≤ s.1 + 1 ∧ s.2.2.2.1.length ≤ s.1 + 1 ∧ usedS s.2.2.2.1 ≤ 46 + 190 * s.1 ∧ s.2.2.2.1.map Seg.es = s.2.2.2.2.2.map Seg.es ∧ (plainE (flatS s.2.2.2.1)).length ≤ s.1 ∧ s.1 ≤ es.length) (fun s' => [(0, .slice ea es.length ec), (1, int s), (2, int r), (7, ptr d1), (8, ptr d2), (9, ptr s'.2.1), (12, ptr g2), (15, .slice (some ⟨a54, 0, none⟩) 2 2), (16, int (plainE (flatS s'.2.2.2.1)).length), (17, int s'.1)]) (fun s => [lgr s.2.1 d1 2 ⟨s.2.2.1, s.2.2.2.1.map (segP 2)⟩, drv d1 60000 (s.2.2.2.1.map segF), lgr g2 d2 2 ⟨s.2.2.2.2.1, s.2.2.2.2.2.map (segP 2)⟩, drv d2 60000 (s.2.2.2.2.2.map segF), U, sl 3 1 intC (some ⟨a54, 0, none⟩) 2 [9, 9]] ++ R) (fun s => es.length - s.1) (0, g1, 1, [newSeg 2 1], 1, [newSeg 2 1]) (⟨hst0, hst0, Nat.le_refl _, Nat.le_refl _, Nat.le_refl _, hu0, rfl, Nat.zero_le _, Nat.zero_le _⟩) (by repeat constructor) (by repeat constructor) (fun s' hs => ?_)
    obtain ⟨i, g, m1, xs, m2, ys⟩ := s'
    obtain ⟨hst, hty, hm1, hm2, hlen, hus, hxy, hpl, hi⟩ := hs
    dsimp only at hst hty hm1 hm2 hlen hus hxy hpl hi ⊢
    have hly := es_len hxy
    have huy := es_used hxy
    refine Gs.seq ?_
    refine Gs.seq ?_
    refine Gs.reg ?_
    refine Go.Sl.L.pu rfl rfl trivial (pu_move rfl) ?_
    refine Go.Sl.L.pu rfl rfl trivial (pu_move rfl) ?_
    refine Go.Sl.L.pu rfl rfl trivial (pu_len Tryz.underlying22 rfl) ?_
    refine Go.Sl.L.pu rfl rfl trivial (pu_lt rfl rfl) ?_
    refine Go.Sl.L.nil ?_
    refine Gs.then_n ?_
    refine Gs.cond rfl (fun hc2 => ?_) (fun hc2 => ?_)
    · skip
      have hlt : i < es.length := by have := of_decide_eq_true hc2; omega
      obtain ⟨e, he⟩ : ∃ x, es[i]? = some x := ⟨es[i], by simp [hlt]⟩
      obtain rfl := hea (by rintro rfl; simp at hlt)
      have hem := List.mem_of_getElem? he
      have hev := hE.2 e hem
      obtain ⟨sk, hsk⟩ : ∃ z, z = (!mayE e.p 2 || decide (e.kind = 1)) := ⟨_, rfl⟩
      refine Gs.skip ?_
      refine Gs.then_n ?_
      refine Gs.seq ?_
      refine Gs.block ?_
      refine Gs.seq ?_
      refine Gs.seq ?_
      refine Gs.cutS (σ := Unit) (fun _ => [(0, .slice (some ⟨eb, eo, none⟩) es.length ec), (1, int s), (2, int r), (7, ptr d1), (8, ptr d2), (9, ptr g), (12, ptr g2), (15, .slice (some ⟨a54, 0, none⟩) 2 2), (16, int (plainE (flatS xs)).length), (17, int i), (74, .bool sk)]) (fun _ => [lgr g d1 2 ⟨m1, xs.map (segP 2)⟩, drv d1 60000 (xs.map segF), lgr g2 d2 2 ⟨m2, ys.map (segP 2)⟩, drv d2 60000 (ys.map segF), U, sl 3 1 intC (some ⟨a54, 0, none⟩) 2 [9, 9]] ++ R) ?_ ?_
      · skip
        refine Gs.reg ?_
        refine Go.Sl.L.pu rfl rfl trivial (pu_move rfl) ?_
        refine Go.Sl.L.pu rfl rfl trivial (pu_move rfl) ?_
        refine Go.Sl.L.pu rfl rfl trivial (pu_ia se_22 rfl rfl (by omega) (by omega)) ?_
        refine Go.Sl.L.rd rfl rfl trivial (rd_lda ag_43 rfl (Rdc.el0 (hE.1.h (by repeat constructor)) he rfl rfl) rfl) ?_
        refine Go.Sl.L.ac rfl rfl trivial (as_call (segMay8_spec hev hT 2) (by repeat constructor) (by repeat constructor)) ?_
        rintro _ _ ⟨_, ⟨rfl, rfl⟩, rfl⟩
        refine Go.Sl.L.pu rfl rfl trivial (pu_not rfl) ?_
        refine Go.Sl.L.puB rfl rfl trivial (pu_move rfl) (fun hg6 => ?_) (fun hg6 => ?_)
        · skip
          obtain rfl : sk = true := by rw [hsk, hg6]; rfl
          refine Go.Sl.L.off rfl rfl rfl rfl rfl rfl ?_
          refine Go.Sl.L.off rfl rfl rfl rfl rfl rfl ?_
          refine Go.Sl.L.off rfl rfl rfl rfl rfl rfl ?_
          refine Go.Sl.L.off rfl rfl rfl rfl rfl rfl ?_
          refine Go.Sl.L.off rfl rfl rfl rfl rfl rfl ?_
          refine Go.Sl.L.off rfl rfl rfl rfl rfl rfl ?_
          refine Go.Sl.L.pu rfl rfl trivial (by first | exact pu_pick_t rfl rfl | exact pu_pick_f rfl rfl) ?_
          refine Go.Sl.L.nil ?_
          refine Gs.then_n ?_
          refine Gs.cutEndS () ?_ ?_
          · repeat constructor
          · repeat constructor
        · skip
          obtain rfl : sk = decide (e.kind = 1) := by rw [hsk, hg6]; rfl
          refine Go.Sl.L.pu rfl rfl ⟨_, rfl, rfl⟩ (pu_move rfl) ?_
          refine Go.Sl.L.pu rfl rfl ⟨_, rfl, rfl⟩ (pu_move rfl) ?_
          refine Go.Sl.L.pu rfl rfl ⟨_, rfl, rfl⟩ (pu_ia se_22 rfl rfl (by omega) (by omega)) ?_
          refine Go.Sl.L.pu rfl rfl ⟨_, rfl, rfl⟩ (pu_fa fa_43_0 rfl) ?_
          refine Go.Sl.L.rd rfl rfl ⟨_, rfl, rfl⟩ (rd_ld na_3 rfl (Rdc.elp 1 (hE.1.h (by repeat constructor)) he rfl rfl)) ?_
          refine Go.Sl.L.pu rfl rfl ⟨_, rfl, rfl⟩ (pu_eq rfl rfl) ?_
          refine Go.Sl.L.pu rfl rfl trivial (by first | exact pu_pick_t rfl rfl | exact pu_pick_f rfl rfl) ?_
          refine Go.Sl.L.nil ?_
          refine Gs.then_n ?_
          refine Gs.cutEndS () ?_ ?_
          · repeat constructor
          · repeat constructor
      · skip
        rintro _
        refine Gs.cond rfl (fun hc3 => ?_) (fun hc3 => ?_)
        · skip
          refine Gs.exit ?_
          refine Gs.then_x ?_
          refine Gs.blk_hit ?_
          refine Gs.then_n ?_
          refine Gs.reg ?_
          refine Go.Sl.L.pu rfl rfl trivial (pu_move rfl) ?_
          refine Go.Sl.L.pu rfl rfl trivial (by first | exact pu_addI rfl rfl rfl (by omega) (by omega) | exact pu_add rfl rfl) ?_
          refine Go.Sl.L.pu rfl rfl trivial (pu_assign rfl) ?_
          refine Go.Sl.L.nil ?_
          refine Gs.then_n ?_
          first
            | exact Gs.again1 (i + 1, g3, m3, synB bs o.xs, q.made, q.xs) ⟨hst3, htt', by show m3 ≤ i + 1 + 1; omega, hmu, hlB2, huB2, hxyB, hflB, hlt⟩ (by show es.length - (i + 1) < es.length - i; omega) (by repeat constructor) (by repeat constructor)
            | exact Gs.again1 (i + 1, g, o.made, synB bs o.xs, q.made, q.xs) ⟨hstB, htt', by show o.made ≤ i + 1 + 1; omega, hmu, hlB2, huB2, hxyB, hflB, hlt⟩ (by show es.length - (i + 1) < es.length - i; omega) (by repeat constructor) (by repeat constructor)
            | exact Gs.again1 (i + 1, g, m1, xs, m2, ys) ⟨hst, hty, by show m1 ≤ i + 1 + 1; omega, by show m2 ≤ i + 1 + 1; omega, by show xs.length ≤ i + 1 + 1; omega, by show usedS xs ≤ 46 + 190 * (i + 1); omega, hxy, by show (plainE (flatS xs)).length ≤ i + 1; omega, hlt⟩ (by show es.length - (i + 1) < es.length - i; omega) (by repeat constructor) (by repeat constructor)
        · skip
          have hmW : mayW 2 e.p [9, 9] [9, 9] = true := by
            rw [hc3] at hsk
            have h1 := Bool.or_eq_false_iff.1 hsk.symm
            have h2 : mayE e.p 2 = true := by simpa using h1.1
            rw [mayW_eq, h2, show decide (e.p.kind = 1) = false from h1.2]
            decide
          have hst' := wS_st (most := 60000) (e := e.p) (v := [9, 9]) (w := [9, 9]) hst
          have hmd' := wS_made (most := 60000) (e := e.p) (v := [9, 9]) (w := [9, 9]) hst
          have hln' := wS_len (most := 60000) (e := e.p) (v := [9, 9]) (w := [9, 9]) hst
          have hus' := wS_used (most := 60000) (e := e.p) (v := [9, 9]) (w := [9, 9]) hst
          have hfp' := wS_flat (most := 60000) (e := e.p) (v := [9, 9]) (w := [9, 9]) hst
          have hok' := wS_ok (most := 60000) hst hmW (by omega)
          have htt' := wS_st (most := 60000) (e := e.p) (v := [9, 9]) (w := [9, 9]) hty
          have hmt' := wS_made (most := 60000) (e := e.p) (v := [9, 9]) (w := [9, 9]) hty
          have hot' := wS_ok (most := 60000) hty hmW (by omega)
          have hxy' := wS_es (most := 60000) hst hty hxy hmW hok' hot'
          rw [if_pos hok'] at hfp'
          obtain ⟨o, ho⟩ : ∃ o, o = wS 60000 2 m1 xs e.p [9, 9] [9, 9] := ⟨_, rfl⟩
          obtain ⟨q, hq⟩ : ∃ o, o = wS 60000 2 m2 ys e.p [9, 9] [9, 9] := ⟨_, rfl⟩
          rw [← ho] at hst' hmd' hln' hus' hfp' hok' hxy'
          rw [← hq] at htt' hmt' hot' hxy'
          have hfl' : (plainE (flatS o.xs)).length = (plainE (flatS xs)).length + 1 := by rw [hfp', List.length_append]; rfl
          refine Gs.skip ?_
          refine Gs.then_n ?_
          refine Gs.seq ?_
          refine Gs.reg ?_
          refine Go.Sl.L.pu rfl rfl trivial (pu_move rfl) ?_
          refine Go.Sl.L.pu rfl rfl trivial (pu_addI (z := ((plainE (flatS o.xs)).length : Nat)) rfl rfl (by omega) (by omega) (by omega)) ?_
          refine Go.Sl.L.pu rfl rfl trivial (pu_assign rfl) ?_
          refine Go.Sl.L.nil ?_
          refine Gs.then_n ?_
          refine Gs.seq ?_
          refine Gs.seq ?_
          refine Gs.reg ?_
          refine Go.Sl.L.pu rfl rfl trivial (pu_move rfl) ?_
          refine Go.Sl.L.pu rfl rfl trivial (pu_move rfl) ?_
          refine Go.Sl.L.pu rfl rfl trivial (pu_move rfl) ?_
          refine Go.Sl.L.pu rfl rfl trivial (pu_ia se_22 rfl rfl (by omega) (by omega)) ?_
          refine Go.Sl.L.rd rfl rfl trivial (rd_lda ag_43 rfl (Rdc.el0 (hE.1.h (by repeat constructor)) he rfl rfl) rfl) ?_
          refine Go.Sl.L.pu rfl rfl trivial (pu_move rfl) ?_
          refine Go.Sl.L.pu rfl rfl trivial (pu_move rfl) ?_
          refine Go.Sl.L.ac rfl rfl trivial (as_call (writeG_spec (b := g) (d := d1) (n := 2) (most := 60000) (made := m1) (xs := xs) (L := [sl 3 1 intC (some ⟨a54, 0, none⟩) 2 [9, 9], U]) (e := e) (v := [9, 9]) (w := [9, 9]) (hev.bigs (by simp)) (Srd.bigs (A := sl 3 1 intC (some ⟨a54, 0, none⟩) 2 [9, 9]) Srd.own (by simp)) (Srd.bigs (A := sl 3 1 intC (some ⟨a54, 0, none⟩) 2 [9, 9]) Srd.own (by simp)) (hT.inn (Inn.mem (by simp))) (by decide) (by decide) hst (by omega) (by omega) (by omega)) (by repeat constructor) (by repeat constructor)) ?_
          rintro _ _ ⟨_, ⟨rfl, rfl⟩, rfl⟩
          rw [← ho]
          refine Go.Sl.L.pu rfl rfl trivial (pu_ne rfl rfl) ?_
          refine Go.Sl.L.puBf rfl rfl trivial (pu_move rfl) (decide_eq_false (fun h => h hok')) ?_
          refine Go.Sl.L.pu rfl rfl ⟨_, rfl, rfl⟩ (pu_move rfl) ?_
          refine Go.Sl.L.pu rfl rfl ⟨_, rfl, rfl⟩ (pu_move rfl) ?_
          refine Go.Sl.L.pu rfl rfl ⟨_, rfl, rfl⟩ (pu_move rfl) ?_
          refine Go.Sl.L.pu rfl rfl ⟨_, rfl, rfl⟩ (pu_ia se_22 rfl rfl (by omega) (by omega)) ?_
          refine Go.Sl.L.rd rfl rfl ⟨_, rfl, rfl⟩ (rd_lda ag_43 rfl (Rdc.el0 (hE.1.h (by repeat constructor)) he rfl rfl) rfl) ?_
          refine Go.Sl.L.pu rfl rfl ⟨_, rfl, rfl⟩ (pu_move rfl) ?_
          refine Go.Sl.L.pu rfl rfl ⟨_, rfl, rfl⟩ (pu_move rfl) ?_
          refine Go.Sl.L.ac rfl rfl ⟨_, rfl, rfl⟩ (as_call (writeG_spec (b := g2) (d := d2) (n := 2) (most := 60000) (made := m2) (xs := ys) (L := [sl 3 1 intC (some ⟨a54, 0, none⟩) 2 [9, 9], U]) (e := e) (v := [9, 9]) (w := [9, 9]) (hev.bigs (by simp)) (Srd.bigs (A := sl 3 1 intC (some ⟨a54, 0, none⟩) 2 [9, 9]) Srd.own (by simp)) (Srd.bigs (A := sl 3 1 intC (some ⟨a54, 0, none⟩) 2 [9, 9]) Srd.own (by simp)) (hT.inn (Inn.mem (by simp))) (by decide) (by decide) hty (by omega) (by omega) (by omega)) (by repeat constructor) (by repeat constructor)) ?_
          rintro _ _ ⟨_, ⟨rfl, rfl⟩, rfl⟩
          rw [← hq]
          refine Go.Sl.L.pu rfl rfl ⟨_, rfl, rfl⟩ (pu_ne rfl rfl) ?_
          refine Go.Sl.L.pu rfl rfl trivial (by first | exact pu_pick_t rfl rfl | exact pu_pick_f rfl rfl) ?_
          refine Go.Sl.L.nil ?_
          refine Gs.then_n ?_
          refine Gs.cond_ff rfl (decide_eq_false (fun h => h hot')) ?_
          refine Gs.skip ?_
          refine Gs.then_n ?_
          refine Gs.seq ?_
          refine Gs.seq ?_
          obtain ⟨bs, hbs⟩ : ∃ z, z = decide (andK .i64 (shrK .i64 s ((i : Int).tmod 60)) 1 = 1) := ⟨_, rfl⟩
          refine Gs.cutS (σ := Unit) (fun _ => [(0, .slice (some ⟨eb, eo, none⟩) es.length ec), (1, int s), (2, int r), (7, ptr d1), (8, ptr d2), (9, ptr g), (12, ptr g2), (15, .slice (some ⟨a54, 0, none⟩) 2 2), (16, int (plainE (flatS o.xs)).length), (17, int i), (107, .bool false)]) (fun _ => [lgr g d1 2 ⟨o.made, o.xs.map (segP 2)⟩, drv d1 60000 ((synB bs o.xs).map segF), lgr g2 d2 2 ⟨q.made, q.xs.map (segP 2)⟩, drv d2 60000 (q.xs.map segF), U, sl 3 1 intC (some ⟨a54, 0, none⟩) 2 [9, 9]] ++ R) ?_ ?_
          · skip
            refine Gs.reg ?_
            refine Go.Sl.L.pu rfl rfl trivial (pu_move rfl) ?_
            refine Go.Sl.L.pu rfl rfl trivial (pu_move rfl) ?_
            refine Go.Sl.L.pu rfl rfl trivial (pu_rem rfl rfl (by decide)) ?_
            refine Go.Sl.L.pu rfl rfl trivial (pu_shr rfl rfl (Int.tmod_nonneg _ (by omega))) ?_
            refine Go.Sl.L.pu rfl rfl trivial (pu_and rfl rfl) ?_
            refine Go.Sl.L.pu rfl rfl trivial (pu_eq rfl rfl) ?_
            refine Go.Sl.L.puB rfl rfl trivial (pu_move rfl) (fun hg6 => ?_) (fun hg6 => ?_)
            · skip
              obtain rfl : bs = true := by rw [hbs]; exact hg6
              refine Go.Sl.L.pu rfl rfl ⟨_, rfl, rfl⟩ (pu_move rfl) ?_
              refine Go.Sl.L.ac rfl rfl ⟨_, rfl, rfl⟩ (as_call (syncSt_spec (b := g) (d := d1) (n := 2) (most := 60000) (made := o.made) (xs := o.xs) (by omega)) (by repeat constructor) (by repeat constructor)) ?_
              rintro _ _ ⟨_, ⟨rfl, rfl⟩, rfl⟩
              refine Go.Sl.L.pu rfl rfl ⟨_, rfl, rfl⟩ (pu_ne rfl rfl) ?_
              refine Go.Sl.L.pu rfl rfl trivial (by first | exact pu_pick_t rfl rfl | exact pu_pick_f rfl rfl) ?_
              refine Go.Sl.L.nil ?_
              refine Gs.then_n ?_
              refine Gs.cutEndS () ?_ ?_
              · repeat constructor
              · repeat constructor
            · skip
              obtain rfl : bs = false := by rw [hbs]; exact hg6
              refine Go.Sl.L.off rfl rfl rfl rfl rfl rfl ?_
              refine Go.Sl.L.off rfl rfl rfl rfl rfl rfl ?_
              refine Go.Sl.L.off rfl rfl rfl rfl rfl rfl ?_
              refine Go.Sl.L.pu rfl rfl trivial (by first | exact pu_pick_t rfl rfl | exact pu_pick_f rfl rfl) ?_
              refine Go.Sl.L.nil ?_
              refine Gs.then_n ?_
              refine Gs.cutEndS () ?_ ?_
              · repeat constructor
              · repeat constructor
          · skip
            rintro _
            have hstB := synB_st bs hst'
            have hesB := synB_es bs o.xs
            have hlB := es_len hesB
            have huB := es_used hesB
            have hfB := es_flat hesB
            have hmu : q.made ≤ i + 1 + 1 := by omega
            have hxyB : (synB bs o.xs).map Seg.es = q.xs.map Seg.es := hesB.trans hxy'
            have hflB : (plainE (flatS (synB bs o.xs))).length ≤ i + 1 := by rw [hfB]; omega
            have huB2 : usedS (synB bs o.xs) ≤ 46 + 190 * (i + 1) := by omega
            have hlB2 : (synB bs o.xs).length ≤ i + 1 + 1 := by omega
            rw [← hfB, ← synB_segP 2 bs o.xs]
            refine Gs.cond_f rfl ?_
            refine Gs.skip ?_
            refine Gs.then_n ?_
            refine Gs.seq ?_
            refine Gs.reg ?_
            refine Go.Sl.L.pu rfl rfl trivial (pu_move rfl) ?_
            refine Go.Sl.L.pu rfl rfl trivial (pu_move rfl) ?_
            refine Go.Sl.L.pu rfl rfl trivial (pu_rem rfl rfl (by decide)) ?_
            refine Go.Sl.L.pu rfl rfl trivial (pu_shr rfl rfl (Int.tmod_nonneg _ (by omega))) ?_
            refine Go.Sl.L.pu rfl rfl trivial (pu_and rfl rfl) ?_
            refine Go.Sl.L.pu rfl rfl trivial (pu_eq rfl rfl) ?_
            refine Go.Sl.L.nil ?_
            refine Gs.then_n ?_
            refine Gs.cond rfl (fun hc6 => ?_) (fun hc6 => ?_)
            · skip
              refine Gs.seq ?_
              refine Gs.reg ?_
              refine Go.Sl.L.pu rfl rfl trivial (pu_move rfl) ?_
              refine Go.Sl.L.ac rfl rfl trivial (as_call (openSt_spec (d := d1) (n := 2) (most := 60000) (made := o.made) (xs := synB bs o.xs) hT (by decide) (by decide) hstB (by omega) (by omega)) (by repeat constructor) (by repeat constructor)) ?_
              rintro _ _ ⟨_, ⟨g3, fa, fc, fs, m3, rfl, ⟨hst3, hm3, hfs⟩, rfl⟩, rfl⟩
              refine Go.Sl.L.pu rfl rfl trivial (pu_move rfl) ?_
              refine Go.Sl.L.pu rfl rfl trivial (pu_extract rfl rfl) ?_
              refine Go.Sl.L.pu rfl rfl trivial (pu_extract rfl rfl) ?_
              refine Go.Sl.L.pu rfl rfl trivial (pu_extract rfl rfl) ?_
              refine Go.Sl.L.pu rfl rfl trivial (pu_assign rfl) ?_
              refine Go.Sl.L.pu rfl rfl trivial (pu_assign rfl) ?_
              refine Go.Sl.L.nil ?_
              refine Gs.then_n ?_
              refine Gs.seq ?_
              refine Gs.reg ?_
              refine Go.Sl.L.pu rfl rfl trivial (pu_move rfl) ?_
              refine Go.Sl.L.pu rfl rfl trivial (pu_eqN Tryz.underlying28 rfl rfl) ?_
              refine Go.Sl.L.puBf rfl rfl trivial (pu_move rfl) rfl ?_
              refine Go.Sl.L.pu rfl rfl ⟨_, rfl, rfl⟩ (pu_move rfl) ?_
              refine Go.Sl.L.pu rfl rfl ⟨_, rfl, rfl⟩ (pu_ne rfl rfl) ?_
              refine Go.Sl.L.pu rfl rfl trivial (by first | exact pu_pick_t rfl rfl | exact pu_pick_f rfl rfl) ?_
              refine Go.Sl.L.nil ?_
              refine Gs.then_n ?_
              refine Gs.cond_ff rfl rfl ?_
              refine Gs.skip ?_
              refine Gs.blk_n ?_
              refine Gs.then_n ?_
              refine Gs.reg ?_
              refine Go.Sl.L.pu rfl rfl trivial (pu_move rfl) ?_
              refine Go.Sl.L.pu rfl rfl trivial (by first | exact pu_addI rfl rfl rfl (by omega) (by omega) | exact pu_add rfl rfl) ?_
              refine Go.Sl.L.pu rfl rfl trivial (pu_assign rfl) ?_
              refine Go.Sl.L.nil ?_
              refine Gs.then_n ?_
              first
                | exact Gs.again1 (i + 1, g3, m3, synB bs o.xs, q.made, q.xs) ⟨hst3, htt', by show m3 ≤ i + 1 + 1; omega, hmu, hlB2, huB2, hxyB, hflB, hlt⟩ (by show es.length - (i + 1) < es.length - i; omega) (by repeat constructor) (by repeat constructor)
                | exact Gs.again1 (i + 1, g, o.made, synB bs o.xs, q.made, q.xs) ⟨hstB, htt', by show o.made ≤ i + 1 + 1; omega, hmu, hlB2, huB2, hxyB, hflB, hlt⟩ (by show es.length - (i + 1) < es.length - i; omega) (by repeat constructor) (by repeat constructor)
                | exact Gs.again1 (i + 1, g, m1, xs, m2, ys) ⟨hst, hty, by show m1 ≤ i + 1 + 1; omega, by show m2 ≤ i + 1 + 1; omega, by show xs.length ≤ i + 1 + 1; omega, by show usedS xs ≤ 46 + 190 * (i + 1); omega, hxy, by show (plainE (flatS xs)).length ≤ i + 1; omega, hlt⟩ (by show es.length - (i + 1) < es.length - i; omega) (by repeat constructor) (by repeat constructor)
            · skip
              refine Gs.skip ?_
              refine Gs.blk_n ?_
              refine Gs.then_n ?_
              refine Gs.reg ?_
              refine Go.Sl.L.pu rfl rfl trivial (pu_move rfl) ?_
              refine Go.Sl.L.pu rfl rfl trivial (by first | exact pu_addI rfl rfl rfl (by omega) (by omega) | exact pu_add rfl rfl) ?_
              refine Go.Sl.L.pu rfl rfl trivial (pu_assign rfl) ?_
              refine Go.Sl.L.nil ?_
              refine Gs.then_n ?_
              first
                | exact Gs.again1 (i + 1, g3, m3, synB bs o.xs, q.made, q.xs) ⟨hst3, htt', by show m3 ≤ i + 1 + 1; omega, hmu, hlB2, huB2, hxyB, hflB, hlt⟩ (by show es.length - (i + 1) < es.length - i; omega) (by repeat constructor) (by repeat constructor)
                | exact Gs.again1 (i + 1, g, o.made, synB bs o.xs, q.made, q.xs) ⟨hstB, htt', by show o.made ≤ i + 1 + 1; omega, hmu, hlB2, huB2, hxyB, hflB, hlt⟩ (by show es.length - (i + 1) < es.length - i; omega) (by repeat constructor) (by repeat constructor)
                | exact Gs.again1 (i + 1, g, m1, xs, m2, ys) ⟨hst, hty, by show m1 ≤ i + 1 + 1; omega, by show m2 ≤ i + 1 + 1; omega, by show xs.length ≤ i + 1 + 1; omega, by show usedS xs ≤ 46 + 190 * (i + 1); omega, hxy, by show (plainE (flatS xs)).length ≤ i + 1; omega, hlt⟩ (by show es.length - (i + 1) < es.length - i; omega) (by repeat constructor) (by repeat constructor)
    · skip
      have hge : i = es.length := by have := of_decide_eq_false hc2; omega
      refine Gs.exit ?_
      refine Gs.then_x ?_
      refine Gs.then_x ?_
      refine Gs.blk_hit ?_
      refine Gs.then_n ?_
      refine Gs.seq ?_
      refine Gs.reg ?_
      refine Go.Sl.L.pu rfl rfl trivial (pu_move rfl) ?_
      refine Go.Sl.L.ac rfl rfl trivial (as_call (segsSt_spec (b := g2) (d := d2) (n := 2) (made := m2) (xs := ys)) (by repeat constructor) (by repeat constructor)) ?_
      rintro _ _ ⟨_, ⟨rfl, rfl⟩, rfl⟩
      refine Go.Sl.L.pu rfl rfl trivial (pu_assign rfl) ?_
      refine Go.Sl.L.nil ?_
      refine Gs.then_n ?_
      refine Gs.seq ?_
      refine Gs.seq ?_
      refine Gs.reg ?_
      refine Go.Sl.L.pu rfl rfl trivial (pu_move rfl) ?_
      refine Go.Sl.L.ac rfl rfl trivial (as_call (segsSt_spec (b := g) (d := d1) (n := 2) (made := m1) (xs := xs)) (by repeat constructor) (by repeat constructor)) ?_
      rintro _ _ ⟨_, ⟨rfl, rfl⟩, rfl⟩
      refine Go.Sl.L.pu rfl rfl trivial (pu_move rfl) ?_
      refine Go.Sl.L.pu rfl rfl trivial (pu_ne rfl rfl) ?_
      refine Go.Sl.L.puBf rfl rfl trivial (pu_move rfl) (decide_eq_false (by rw [hly]; exact fun h => h rfl)) ?_
      refine Go.Sl.L.pu rfl rfl ⟨_, rfl, rfl⟩ (pu_move rfl) ?_
      refine Go.Sl.L.ac rfl rfl ⟨_, rfl, rfl⟩ (as_call (syncSt_spec (b := g) (d := d1) (n := 2) (most := 60000) (made := m1) (xs := xs) (by omega)) (by repeat constructor) (by repeat constructor)) ?_
      rintro _ _ ⟨_, ⟨rfl, rfl⟩, rfl⟩
      refine Go.Sl.L.pu rfl rfl ⟨_, rfl, rfl⟩ (pu_ne rfl rfl) ?_
      refine Go.Sl.L.pu rfl rfl trivial (by first | exact pu_pick_t rfl rfl | exact pu_pick_f rfl rfl) ?_
      refine Go.Sl.L.puBf rfl rfl trivial (pu_move rfl) rfl ?_
      refine Go.Sl.L.pu rfl rfl ⟨_, rfl, rfl⟩ (pu_move rfl) ?_
      refine Go.Sl.L.ac rfl rfl ⟨_, rfl, rfl⟩ (as_call (syncSt_spec (b := g2) (d := d2) (n := 2) (most := 60000) (made := m2) (xs := ys) (by omega)) (by repeat constructor) (by repeat constructor)) ?_
      rintro _ _ ⟨_, ⟨rfl, rfl⟩, rfl⟩
      refine Go.Sl.L.pu rfl rfl ⟨_, rfl, rfl⟩ (pu_ne rfl rfl) ?_
      refine Go.Sl.L.pu rfl rfl trivial (by first | exact pu_pick_t rfl rfl | exact pu_pick_f rfl rfl) ?_
      refine Go.Sl.L.nil ?_
      refine Gs.then_n ?_
      refine Gs.cond_ff rfl rfl ?_
      refine Gs.skip ?_
      refine Gs.then_n ?_
      refine Gs.seq ?_
      refine Gs.reg ?_
      refine Go.Sl.L.pu rfl rfl trivial (pu_move rfl) ?_
      refine Go.Sl.L.ac rfl rfl trivial (as_call (openSt_spec (d := d1) (n := 2) (most := 60000) (made := m1) (xs := xs.map syn) hT (by decide) (by decide) (syn_st hst) (by omega) (by rw [List.length_map]; omega)) (by repeat constructor) (by repeat constructor)) ?_
      rintro _ _ ⟨_, ⟨g3, fa, fc, fs, m3, rfl, ⟨hst3, hm3, hfs⟩, rfl⟩, rfl⟩
      refine Go.Sl.L.pu rfl rfl trivial (pu_move rfl) ?_
      refine Go.Sl.L.pu rfl rfl trivial (pu_extract rfl rfl) ?_
      refine Go.Sl.L.pu rfl rfl trivial (pu_extract rfl rfl) ?_
      refine Go.Sl.L.pu rfl rfl trivial (pu_extract rfl rfl) ?_
      refine Go.Sl.L.pu rfl rfl trivial (pu_assign rfl) ?_
      refine Go.Sl.L.pu rfl rfl trivial (pu_assign rfl) ?_
      refine Go.Sl.L.pu rfl rfl trivial (pu_assign rfl) ?_
      refine Go.Sl.L.nil ?_
      refine Gs.then_n ?_
      refine Gs.seq ?_
      refine Gs.reg ?_
      refine Go.Sl.L.pu rfl rfl trivial (pu_move rfl) ?_
      refine Go.Sl.L.ac rfl rfl trivial (as_call (openSt_spec (d := d2) (n := 2) (most := 60000) (made := m2) (xs := ys.map syn) hT (by decide) (by decide) (syn_st hty) (by omega) (by rw [List.length_map]; omega)) (by repeat constructor) (by repeat constructor)) ?_
      rintro _ _ ⟨_, ⟨g4, ka, kc, ks, m4, rfl, ⟨hst4, hm4, hks⟩, rfl⟩, rfl⟩
      refine Go.Sl.L.pu rfl rfl trivial (pu_move rfl) ?_
      refine Go.Sl.L.pu rfl rfl trivial (pu_extract rfl rfl) ?_
      refine Go.Sl.L.pu rfl rfl trivial (pu_extract rfl rfl) ?_
      refine Go.Sl.L.pu rfl rfl trivial (pu_extract rfl rfl) ?_
      refine Go.Sl.L.pu rfl rfl trivial (pu_assign rfl) ?_
      refine Go.Sl.L.pu rfl rfl trivial (pu_assign rfl) ?_
      refine Go.Sl.L.pu rfl rfl trivial (pu_assign rfl) ?_
      refine Go.Sl.L.nil ?_
      have hfvec := seg_vecs (syn_st hst).inv.good hfs
      rw [syn_flat] at hfs hks
      rw [← es_flat hxy] at hks
      have hfl := seg_lens hst.inv.good hfs
      have hfk : plainV fs = plainV ks := by rw [hfs, hks]
      have hfilt : (filterV fs).length = (plainE (flatS xs)).length := by
        have := congrArg List.length (filterV_plain fs)
        rw [hfs, List.length_map] at this
        exact this
      refine Gs.then_n ?_
      refine Gs.seq ?_
      refine Gs.reg ?_
      refine Go.Sl.L.pu rfl rfl trivial (pu_move rfl) ?_
      refine Go.Sl.L.pu rfl rfl trivial (pu_eq rfl rfl) ?_
      refine Go.Sl.L.puBt rfl rfl trivial (pu_move rfl) rfl ?_
      refine Go.Sl.L.pu rfl rfl ⟨_, rfl, rfl⟩ (pu_move rfl) ?_
      refine Go.Sl.L.pu rfl rfl ⟨_, rfl, rfl⟩ (pu_eq rfl rfl) ?_
      refine Go.Sl.L.pu rfl rfl trivial (by first | exact pu_pick_t rfl rfl | exact pu_pick_f rfl rfl) ?_
      refine Go.Sl.L.puBt rfl rfl trivial (pu_move rfl) rfl ?_
      refine Go.Sl.L.pu rfl rfl ⟨_, rfl, rfl⟩ (pu_move rfl) ?_
      refine Go.Sl.L.pu rfl rfl ⟨_, rfl, rfl⟩ (pu_move rfl) ?_
      skip
      refine Gs.elOpen (a := fa) (c := fc) (es := fs) (by repeat constructor) ?_
      refine Gs.elOpen (a := ka) (c := kc) (es := ks) (by repeat constructor) ?_
      refine Go.Sl.L.ac rfl rfl ⟨_, rfl, rfl⟩ (as_call (sameL_spec (VX := big (fs.map entO)) (VY := big (ks.map entO)) (a := fa) (b := ka) (ca := fc) (cb := kc) (xs := fs) (ys := ks) (fun e he => (evd_entO e).bigs (List.mem_map.2 ⟨e, he, rfl⟩)) (fun e he => (evd_entO e).bigs (List.mem_map.2 ⟨e, he, rfl⟩)) (by omega) (fun e he => by have := hfvec e he; omega)) (by repeat constructor) (by repeat constructor)) ?_
      rintro _ _ ⟨_, ⟨rfl, rfl⟩, rfl⟩
      rw [decide_eq_true hfk]
      refine Go.Sl.L.pu rfl rfl trivial (by first | exact pu_pick_t rfl rfl | exact pu_pick_f rfl rfl) ?_
      refine Go.Sl.L.puBt rfl rfl trivial (pu_move rfl) rfl ?_
      refine Go.Sl.L.pu rfl rfl ⟨_, rfl, rfl⟩ (pu_move rfl) ?_
      refine Go.Sl.L.ac rfl rfl ⟨_, rfl, rfl⟩ (as_call (plain_spec (S := sl 43 8 entC fa fc fs) (a := fa) (es := fs) Srd.own (by omega)) (by repeat constructor) (by repeat constructor)) ?_
      rintro _ _ ⟨_, ⟨qa, qc, rfl, rfl⟩, rfl⟩
      refine Go.Sl.L.pu rfl rfl ⟨_, rfl, rfl⟩ (pu_len Tryz.underlying22 rfl) ?_
      refine Go.Sl.L.pu rfl rfl ⟨_, rfl, rfl⟩ (pu_move rfl) ?_
      refine Go.Sl.L.pu rfl rfl ⟨_, rfl, rfl⟩ (pu_eq rfl rfl) ?_
      refine Go.Sl.L.pu rfl rfl trivial (by first | exact pu_pick_t rfl rfl | exact pu_pick_f rfl rfl) ?_
      refine Go.Sl.L.puBt rfl rfl trivial (pu_move rfl) (decide_eq_true (by rw [hfilt])) ?_
      refine Go.Sl.L.pu rfl rfl ⟨_, rfl, rfl⟩ (pu_move rfl) ?_
      refine Go.Sl.L.pu rfl rfl ⟨_, rfl, rfl⟩ (pu_len Tryz.underlying22 rfl) ?_
      refine Go.Sl.L.pu rfl rfl ⟨_, rfl, rfl⟩ (pu_move rfl) ?_
      refine Go.Sl.L.pu rfl rfl ⟨_, rfl, rfl⟩ (pu_move rfl) ?_
      refine Go.Sl.L.pu rfl rfl ⟨_, rfl, rfl⟩ (pu_addI (z := (((plainE (flatS xs)).length + ys.length : Nat) : Int)) rfl rfl (by omega) (by omega) (by omega)) ?_
      refine Go.Sl.L.pu rfl rfl ⟨_, rfl, rfl⟩ (pu_eq rfl rfl) ?_
      refine Go.Sl.L.pu rfl rfl trivial (by first | exact pu_pick_t rfl rfl | exact pu_pick_f rfl rfl) ?_
      refine Go.Sl.L.puBt rfl rfl trivial (pu_move rfl) (decide_eq_true (by rw [hfl, hly])) ?_
      refine Go.Sl.L.ac rfl rfl ⟨_, rfl, rfl⟩ (as_call (awake9_spec hT) (by repeat constructor) (by repeat constructor)) ?_
      rintro _ _ ⟨_, ⟨rfl, rfl⟩, rfl⟩
      refine Go.Sl.L.pu rfl rfl trivial (by first | exact pu_pick_t rfl rfl | exact pu_pick_f rfl rfl) ?_
      refine Go.Sl.L.pu rfl rfl trivial (pu_assign rfl) ?_
      refine Go.Sl.L.nil ?_
      refine Gs.then_n ?_
      refine Gs.ret ?_
      exact Gs.fin1 Tryz.results5 rfl _ (⟨rfl, rfl⟩) (by repeat constructor)
end Go.Proofs.YtjaafkakeccniaaGreatDoor
