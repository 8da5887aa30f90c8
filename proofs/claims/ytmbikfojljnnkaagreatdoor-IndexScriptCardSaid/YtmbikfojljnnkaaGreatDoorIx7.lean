/- Walk: grapevineref1.Of. -/
import Derived.Test.YtmbikfojljnnkaaGreatDoorIx6
namespace Go.Proofs.YtmbikfojljnnkaaGreatDoor
open Go Go.Sl Go.Gv Go.Kv Go.Po Go.Ix
set_option maxRecDepth 100000
/-- Where Of stands: behind i runes, the last word from rune f on. -/
structure InvO (ps : List Chk) (i f : Nat) (W : List ByteArray) : Prop where
  fi : f ≤ i
  il : i ≤ ps.length + 1
  wl : W.length ≤ i
  go : i ≤ ps.length → W ++ (fc notW ((ps.take i).drop f) (ps.drop i)).map lowC = (fc notW [] ps).map lowC
  fin : i = ps.length + 1 → W = (fc notW [] ps).map lowC
theorem InvO.start (ps : List Chk) : InvO ps 0 0 [] := ⟨Nat.le_refl _, Nat.zero_le _, Nat.le_refl _, fun _ => rfl, fun h => by omega⟩
theorem cur_len {ps : List Chk} {i f : Nat} (h : i ≤ ps.length) : ((ps.take i).drop f).length = i - f := by rw [List.length_drop, List.length_take]; omega
theorem cur_nil {ps : List Chk} {i f : Nat} (h : i ≤ ps.length) (hf : f ≤ i) : (ps.take i).drop f = [] ↔ f = i := by
  rw [← List.length_eq_zero_iff, cur_len h]; omega
theorem InvO.letter {ps : List Chk} {i f : Nat} {W : List ByteArray} (h : InvO ps i f W) {x : Chk} (hx : ps[i]? = some x) (hl : letB (x.1 : Int) = true) : InvO ps (i + 1) f W := by
  have hlt := (List.getElem?_eq_some_iff.1 hx).1
  have hxe := (List.getElem?_eq_some_iff.1 hx).2
  have hg := h.go (by omega)
  have hq : notW x.1 = false := by unfold notW; rw [hl]; rfl
  refine ⟨Nat.le_succ_of_le h.fi, by omega, Nat.le_succ_of_le h.wl, fun _ => ?_, fun e => by omega⟩
  rw [List.drop_eq_getElem_cons hlt, hxe, fc, if_neg (by rw [hq]; decide)] at hg
  rw [List.take_add_one, hx, List.drop_append_of_le_length (by rw [List.length_take]; have := h.fi; omega)]
  exact hg
theorem InvO.cut {ps : List Chk} {i f : Nat} {W : List ByteArray} (h : InvO ps i f W) (hi : i ≤ ps.length) (hl : ∀ x, ps[i]? = some x → letB (x.1 : Int) = false) :
    (f < i → InvO ps (i + 1) (i + 1) (W ++ [lowC ((ps.take i).drop f)])) ∧ (f = i → InvO ps (i + 1) (i + 1) W) := by
  have hg := h.go hi
  have hwl := h.wl
  have hnil := cur_nil hi h.fi
  by_cases hlt : i < ps.length
  · have hx : ps[i]? = some ps[i] := by simp [hlt]
    have hq : notW ps[i].1 = true := by unfold notW; rw [hl _ hx]; rfl
    rw [List.drop_eq_getElem_cons hlt, fc, if_pos hq] at hg
    have hd : (ps.take (i + 1)).drop (i + 1) = [] := by rw [List.drop_eq_nil_iff, List.length_take]; omega
    refine ⟨fun hf => ⟨Nat.le_refl _, by omega, by rw [List.length_append]; simp; omega, fun _ => ?_, fun e => by omega⟩, fun hf => ⟨Nat.le_refl _, by omega, by omega, fun _ => ?_, fun e => by omega⟩⟩
    · rw [if_neg (fun e => by have := hnil.1 e; omega)] at hg
      rw [hd, List.append_assoc]; exact hg
    · rw [if_pos (hnil.2 hf)] at hg
      rw [hd]; exact hg
  · have hie : i = ps.length := by omega
    rw [show ps.drop i = [] by rw [hie, List.drop_length], fc] at hg
    refine ⟨fun hf => ⟨Nat.le_refl _, by omega, by rw [List.length_append]; simp; omega, fun e => by omega, fun _ => ?_⟩, fun hf => ⟨Nat.le_refl _, by omega, by omega, fun e => by omega, fun _ => ?_⟩⟩
    · rw [if_neg (fun e => by have := hnil.1 e; omega)] at hg
      exact hg
    · rw [if_pos (hnil.2 hf)] at hg
      simpa using hg
theorem letB_32 : letB 32 = false := by kernel_rfl
theorem flat_sub (ps : List Chk) (i f : Nat) : (strC' ((ps.take i).drop f)).size ≤ (strC' ps).size := by
  rw [str_size, str_size]
  have h1 : flat ps = flat (ps.take i) ++ flat (ps.drop i) := by rw [← flat_app, List.take_append_drop]
  have h2 : flat (ps.take i) = flat ((ps.take i).take f) ++ flat ((ps.take i).drop f) := by rw [← flat_app, List.take_append_drop]
  rw [h1, h2]; simp only [List.length_append]; omega
theorem chunk_rune {p : Chk} (h : Chunk p) : p.1 ≤ 1114111 := by
  have := Lib.decodeL_rune p.2
  rw [h.2.1] at this; exact this
theorem of1_spec {h0 : Hp} (T : TabX h0) (s : ByteArray) : Ct Tryz.prog 21 [.string s] [ro h0] (fun v hs => ∃ a c, v = .slice a (toksV s).length c ∧ hs = [ro h0, sl 52 2 wordC a c (toksV s)]) := by
  refine Ct.intro Tryz.func21 rfl (by kernel_rfl) 43 Tryz.ntmps21 (Nat.le_of_ble_eq_true rfl) fun w0 R => ?_
  refine Gs.seq ?_
  refine Gs.reg ?_
  refine Go.Sl.L.pu rfl rfl trivial (pu_assign rfl) ?_
  refine Go.Sl.L.nil ?_
  refine Gs.then_n ?_
  refine Gs.seq ?_
  refine Gs.reg ?_
  refine Go.Sl.L.pu rfl rfl trivial (pu_assign rfl) ?_
  refine Go.Sl.L.nil ?_
  refine Gs.then_n ?_
  refine Gs.seq ?_
  refine Gs.seq ?_
  refine Gs.reg ?_
  refine Go.Sl.L.pu rfl rfl trivial (pu_move rfl) ?_
  refine Go.Sl.L.ac rfl rfl trivial (as_call (textMay1_spec T.1 s) (by repeat constructor) (by repeat constructor)) ?_
  rintro _ _ ⟨_, ⟨rfl, rfl⟩, rfl⟩
  refine Go.Sl.L.pu rfl rfl trivial (pu_not rfl) ?_
  refine Go.Sl.L.nil ?_
  refine Gs.then_n ?_
  refine Gs.cond rfl (fun hc0 => ?_) (fun hc0 => ?_)
  · skip
    have hno : toksV s = [] := by unfold toksV wordsB; rw [not_t hc0]; rfl
    refine Gs.seq ?_
    refine Gs.reg ?_
    refine Go.Sl.L.pu rfl rfl trivial (pu_assign rfl) ?_
    refine Go.Sl.L.nil ?_
    refine Gs.then_n ?_
    refine Gs.ret ?_
    refine Gs.then_r ?_
    refine Gs.slNil 52 2 wordC ?_
    exact Gs.fin1 Tryz.results21 rfl _ (⟨none, 0, by rw [hno]; rfl, by rw [hno]⟩) (by repeat constructor)
  · skip
    have htx := not_f hc0
    have hsv : validS s = true := by unfold textB at htx; simp only [Bool.and_eq_true] at htx; exact htx.2
    have hsz : s.size ≤ 120 := by unfold textB at htx; simp only [Bool.and_eq_true, decide_eq_true_eq] at htx; omega
    obtain ⟨ps, hps, rfl⟩ := chunks_str hsv
    have hpl : ps.length ≤ 120 := by have := flat_len hps; rw [str_size] at hsz; omega
    have hW : wordsB (strC' ps) = (fc notW [] ps).map lowC := words_str hps htx
    refine Gs.skip ?_
    refine Gs.then_n ?_
    refine Gs.seq ?_
    refine Gs.reg ?_
    refine Go.Sl.L.pu rfl rfl trivial (pu_move rfl) ?_
    refine Go.Sl.L.ac rfl rfl trivial (as_call (runes1_spec T hps (by omega) (by omega)) (by repeat constructor) (by repeat constructor)) ?_
    rintro _ _ ⟨_, ⟨lb, lk, rfl, rfl⟩, rfl⟩
    rw [show ps.length = (ints ps).length by simp]
    refine Go.Sl.L.ac rfl rfl trivial (ac_lit encC_21 ([(32 : Int)]) et_92 ek_21 rfl (by repeat constructor) rfl rfl (by decide)) ?_
    rintro _ _ ⟨a12, rfl, rfl⟩
    refine Go.Sl.L.ac rfl rfl trivial (ac_append (xs := ints ps) (ys := [(32 : Int)]) et_92 ek_21 rfl rfl (by repeat constructor) (SrcH.sl Tryz.underlying92 ek_21 (SlH.own (by repeat constructor))) (by first | omega | (simp; omega)) (by first | omega | (simp; omega))) ?_
    rintro _ _ ⟨a13, c13, rfl, rfl⟩
    refine Go.Sl.L.pu rfl rfl trivial (pu_assign rfl) ?_
    refine Go.Sl.L.nil ?_
    have hll : (ints ps ++ [(32 : Int)]).length = ps.length + 1 := by simp
    refine Gs.slLen (E := 21) (sz := 1) (enc := runeC) (a := a13) (c := c13) (xs := ints ps ++ [(32 : Int)]) (by repeat constructor) fun hlc => ?_
    refine Gs.slAddr (xs := ints ps ++ [(32 : Int)]) (SlH.own (E := 21) (enc := runeC) (a := a13) (c := c13) (by repeat constructor)) fun zb zo hza => ?_
    obtain rfl := hza (by simp)
    refine Gs.slNil 52 2 wordC ?_
    refine Gs.then_n ?_
    refine Gs.seq ?_
    refine Gs.reg ?_
    refine Go.Sl.L.pu rfl rfl trivial (pu_assign rfl) ?_
    refine Go.Sl.L.nil ?_
    refine Gs.then_n ?_
    refine Gs.seq ?_
    refine Gs.seq ?_
    refine Gs.reg ?_
    refine Go.Sl.L.pu rfl rfl trivial (pu_assign rfl) ?_
    refine Go.Sl.L.nil ?_
    refine Gs.then_n ?_
    refine Gs.block ?_
    refine Gs.loop1 (fun s : Nat × Nat × (Option Addr × Nat) × List ByteArray => InvO ps s.1 s.2.1 s.2.2.2) (fun s => [(3, .slice s.2.2.1.1 (toksOf s.2.2.2 0).length s.2.2.1.2), (4, .slice (some ⟨zb, zo, none⟩) (ints ps ++ [(32 : Int)]).length c13), (5, int s.2.1), (6, int s.1)]) (fun s => [ro h0, sl 21 1 runeC (some ⟨zb, zo, none⟩) c13 (ints ps ++ [(32 : Int)]), sl 52 2 wordC s.2.2.1.1 s.2.2.1.2 (toksOf s.2.2.2 0)] ++ R) (fun s => ps.length + 1 - s.1) (0, 0, (none, 0), []) (InvO.start ps) (by repeat constructor) (by repeat constructor) (fun s hs => ?_)
    obtain ⟨i, f, ⟨oa, oc⟩, W⟩ := s
    dsimp only at hs ⊢
    have hfi := hs.fi
    have hil := hs.il
    have hwl := hs.wl
    have htl : (toksOf W 0).length = W.length := toks_length W 0
    refine Gs.seq ?_
    refine Gs.seq ?_
    refine Gs.reg ?_
    refine Go.Sl.L.pu rfl rfl trivial (pu_move rfl) ?_
    refine Go.Sl.L.pu rfl rfl trivial (pu_move rfl) ?_
    refine Go.Sl.L.pu rfl rfl trivial (pu_len Tryz.underlying92 rfl) ?_
    refine Go.Sl.L.pu rfl rfl trivial (pu_lt rfl rfl) ?_
    refine Go.Sl.L.nil ?_
    refine Gs.then_n ?_
    refine Gs.cond rfl (fun hc1 => ?_) (fun hc1 => ?_)
    · skip
      have hlt : i < ps.length + 1 := by have := of_decide_eq_true hc1; omega
      obtain ⟨r, hr⟩ : ∃ r, (ints ps ++ [(32 : Int)])[i]? = some r := ⟨(ints ps ++ [(32 : Int)])[i]'(by omega), by simp⟩
      have hrr : 0 ≤ r ∧ r ≤ 1114111 ∧ (∀ x, ps[i]? = some x → r = (x.1 : Int)) ∧ (i = ps.length → r = 32) := by
        by_cases hi : i < ps.length
        · rw [List.getElem?_append_left (by simp; exact hi)] at hr
          have hx : ps[i]? = some ps[i] := by simp [hi]
          simp only [ints, List.getElem?_map, hx, Option.map_some, Option.some.injEq] at hr
          have := chunk_rune (hps _ (List.getElem_mem hi))
          exact ⟨by omega, by omega, fun x h => by rw [hx] at h; cases h; exact hr.symm, fun e => by omega⟩
        · have hie : i = ps.length := by omega
          rw [List.getElem?_append_right (by simp; omega)] at hr
          simp [hie] at hr
          exact ⟨by omega, by omega, fun x h => by have := (List.getElem?_eq_some_iff.1 h).1; omega, fun _ => hr.symm⟩
      refine Gs.skip ?_
      refine Gs.then_n ?_
      refine Gs.seq ?_
      refine Gs.block ?_
      refine Gs.seq ?_
      refine Gs.seq ?_
      refine Gs.reg ?_
      refine Go.Sl.L.pu rfl rfl trivial (pu_move rfl) ?_
      refine Go.Sl.L.pu rfl rfl trivial (pu_move rfl) ?_
      refine Go.Sl.L.pu rfl rfl trivial (pu_ia se_92 rfl rfl (by omega) (by omega)) ?_
      refine Go.Sl.L.rd rfl rfl trivial (rd_ld na_21 rfl (Rdc.el0 (SlH.own (xs := ints ps ++ [(32 : Int)]) (E := 21) (enc := runeC) (sz := 1) (by repeat constructor)) hr rfl rfl)) ?_
      refine Go.Sl.L.ac rfl rfl trivial (as_call (letter1_spec T r (by omega) (by omega)) (by repeat constructor) (by repeat constructor)) ?_
      rintro _ _ ⟨_, ⟨rfl, rfl⟩, rfl⟩
      refine Go.Sl.L.nil ?_
      refine Gs.then_n ?_
      refine Gs.cond rfl (fun hc2 => ?_) (fun hc2 => ?_)
      · skip
        have hi : i < ps.length := by
          rcases (by omega : i < ps.length ∨ i = ps.length) with h | h
          · exact h
          · have hc2' : letB r = true := hc2
            rw [hrr.2.2.2 h, letB_32] at hc2'; cases hc2'
        have hInvL : InvO ps (i + 1) f W := hs.letter (x := ps[i]) (by simp [hi]) (by rw [← hrr.2.2.1 ps[i] (by simp [hi])]; exact hc2)
        refine Gs.exit ?_
        refine Gs.then_x ?_
        refine Gs.blk_hit ?_
        refine Gs.then_n ?_
        refine Gs.reg ?_
        refine Go.Sl.L.pu rfl rfl trivial (pu_move rfl) ?_
        refine Go.Sl.L.pu rfl rfl trivial (by first | exact pu_addI rfl rfl rfl (by omega) (by omega) | exact pu_add rfl rfl) ?_
        refine Go.Sl.L.pu rfl rfl trivial (pu_assign rfl) ?_
        refine Go.Sl.L.nil ?_
        refine Gs.then_n ?_
        first | exact Gs.again1 (i + 1, f, (oa, oc), W) hInvL (by show ps.length + 1 - (i + 1) < ps.length + 1 - i; omega) (by repeat constructor) (by repeat constructor) | exact Gs.again1 (i + 1, i + 1, (a39, c39), W ++ [lowC ((ps.take i).drop f)]) hInvW (by show ps.length + 1 - (i + 1) < ps.length + 1 - i; omega) (by repeat constructor) (by repeat constructor) | exact Gs.again1 (i + 1, i + 1, (oa, oc), W) hInvN (by show ps.length + 1 - (i + 1) < ps.length + 1 - i; omega) (by repeat constructor) (by repeat constructor)
      · skip
        have hiN : i ≤ ps.length := by omega
        obtain ⟨hcw, hcn⟩ := hs.cut hiN fun x hx => by rw [← hrr.2.2.1 x hx]; exact hc2
        have hcur : ∀ p ∈ (ps.take i).drop f, Chunk p := fun p hp => hps p (List.mem_of_mem_take (List.mem_of_mem_drop hp))
        have hcl := cur_len (f := f) hiN
        have hcs := flat_sub ps i f
        have hcut : ((ints ps ++ [(32 : Int)]).take i).drop f = ints ((ps.take i).drop f) := by
          rw [List.take_append_of_le_length (by simp; exact hiN)]; simp [ints]
        refine Gs.skip ?_
        refine Gs.then_n ?_
        refine Gs.seq ?_
        refine Gs.seq ?_
        refine Gs.reg ?_
        refine Go.Sl.L.pu rfl rfl trivial (pu_move rfl) ?_
        refine Go.Sl.L.pu rfl rfl trivial (pu_move rfl) ?_
        refine Go.Sl.L.pu rfl rfl trivial (pu_gt rfl rfl) ?_
        refine Go.Sl.L.nil ?_
        refine Gs.then_n ?_
        refine Gs.cond rfl (fun hc3 => ?_) (fun hc3 => ?_)
        · skip
          have hf : f < i := by have := of_decide_eq_true hc3; omega
          have hInvW := hcw hf
          refine Gs.reg ?_
          refine Go.Sl.L.pu rfl rfl trivial (pu_move rfl) ?_
          refine Go.Sl.L.pu rfl rfl trivial (pu_move rfl) ?_
          refine Go.Sl.L.pu rfl rfl trivial (pu_move rfl) ?_
          refine Go.Sl.L.pu rfl rfl trivial (pu_move rfl) ?_
          refine Go.Sl.L.pu rfl rfl trivial (pu_slice et_92 rfl rfl rfl (by omega) (by omega) (by omega)) ?_
          refine Go.Sl.L.rd rfl rfl trivial (rd_r2s (rs := ints ((ps.take i).drop f)) Tryz.underlying92 Tryz.underlying21 Tryz.underlying9 rfl (by rw [List.length_map, hcl]; simp) (by rw [← hcut]; exact SlH.cut (SlH.own (E := 21) (by repeat constructor)) f i c13 (.inl hlc))) ?_
          rw [runesBytes_str hcur]
          refine Go.Sl.L.ac rfl rfl trivial (as_call (norm1_spec T hcur (by omega) (by omega)) (by repeat constructor) (by repeat constructor)) ?_
          rintro _ _ ⟨_, ⟨rfl, rfl⟩, rfl⟩
          refine Go.Sl.L.pu rfl rfl trivial (pu_move rfl) ?_
          refine Go.Sl.L.pu rfl rfl trivial (pu_len Tryz.underlying49 rfl) ?_
          refine Go.Sl.L.pu rfl rfl trivial (pu_build bd_52 (by repeat constructor) rfl) ?_
          refine Go.Sl.L.ac rfl rfl trivial (ac_lit encC_52 ([(lowC ((ps.take i).drop f), ((toksOf W 0).length : Int))]) et_49 ek_52 rfl (by repeat constructor) rfl rfl (by decide)) ?_
          rintro _ _ ⟨a38, rfl, rfl⟩
          refine Go.Sl.L.ac rfl rfl trivial (ac_append (xs := toksOf W 0) (ys := [(lowC ((ps.take i).drop f), ((toksOf W 0).length : Int))]) et_49 ek_52 rfl rfl (by repeat constructor) (SrcH.sl Tryz.underlying49 ek_52 (SlH.own (by repeat constructor))) (by first | omega | (simp; omega)) (by first | omega | (simp; omega))) ?_
          rintro _ _ ⟨a39, c39, rfl, rfl⟩
          refine Go.Sl.L.pu rfl rfl trivial (pu_assign rfl) ?_
          refine Go.Sl.L.nil ?_
          rw [show toksOf W 0 ++ [(lowC ((ps.take i).drop f), ((toksOf W 0).length : Int))] = toksOf (W ++ [lowC ((ps.take i).drop f)]) 0 by rw [toks_snoc, toks_length, Nat.zero_add]]
          refine Gs.then_n ?_
          refine Gs.reg ?_
          refine Go.Sl.L.pu rfl rfl trivial (pu_move rfl) ?_
          refine Go.Sl.L.pu rfl rfl trivial (by first | exact pu_addI rfl rfl rfl (by omega) (by omega) | exact pu_add rfl rfl) ?_
          refine Go.Sl.L.pu rfl rfl trivial (pu_assign rfl) ?_
          refine Go.Sl.L.nil ?_
          refine Gs.blk_n ?_
          refine Gs.then_n ?_
          refine Gs.reg ?_
          refine Go.Sl.L.pu rfl rfl trivial (pu_move rfl) ?_
          refine Go.Sl.L.pu rfl rfl trivial (by first | exact pu_addI rfl rfl rfl (by omega) (by omega) | exact pu_add rfl rfl) ?_
          refine Go.Sl.L.pu rfl rfl trivial (pu_assign rfl) ?_
          refine Go.Sl.L.nil ?_
          refine Gs.then_n ?_
          first | exact Gs.again1 (i + 1, f, (oa, oc), W) hInvL (by show ps.length + 1 - (i + 1) < ps.length + 1 - i; omega) (by repeat constructor) (by repeat constructor) | exact Gs.again1 (i + 1, i + 1, (a39, c39), W ++ [lowC ((ps.take i).drop f)]) hInvW (by show ps.length + 1 - (i + 1) < ps.length + 1 - i; omega) (by repeat constructor) (by repeat constructor) | exact Gs.again1 (i + 1, i + 1, (oa, oc), W) hInvN (by show ps.length + 1 - (i + 1) < ps.length + 1 - i; omega) (by repeat constructor) (by repeat constructor)
        · skip
          have hf : f = i := by have := of_decide_eq_false hc3; omega
          have hInvN := hcn hf
          refine Gs.skip ?_
          refine Gs.then_n ?_
          refine Gs.reg ?_
          refine Go.Sl.L.pu rfl rfl trivial (pu_move rfl) ?_
          refine Go.Sl.L.pu rfl rfl trivial (by first | exact pu_addI rfl rfl rfl (by omega) (by omega) | exact pu_add rfl rfl) ?_
          refine Go.Sl.L.pu rfl rfl trivial (pu_assign rfl) ?_
          refine Go.Sl.L.nil ?_
          refine Gs.blk_n ?_
          refine Gs.then_n ?_
          refine Gs.reg ?_
          refine Go.Sl.L.pu rfl rfl trivial (pu_move rfl) ?_
          refine Go.Sl.L.pu rfl rfl trivial (by first | exact pu_addI rfl rfl rfl (by omega) (by omega) | exact pu_add rfl rfl) ?_
          refine Go.Sl.L.pu rfl rfl trivial (pu_assign rfl) ?_
          refine Go.Sl.L.nil ?_
          refine Gs.then_n ?_
          first | exact Gs.again1 (i + 1, f, (oa, oc), W) hInvL (by show ps.length + 1 - (i + 1) < ps.length + 1 - i; omega) (by repeat constructor) (by repeat constructor) | exact Gs.again1 (i + 1, i + 1, (a39, c39), W ++ [lowC ((ps.take i).drop f)]) hInvW (by show ps.length + 1 - (i + 1) < ps.length + 1 - i; omega) (by repeat constructor) (by repeat constructor) | exact Gs.again1 (i + 1, i + 1, (oa, oc), W) hInvN (by show ps.length + 1 - (i + 1) < ps.length + 1 - i; omega) (by repeat constructor) (by repeat constructor)
    · skip
      have hfin : i = ps.length + 1 := by have := of_decide_eq_false hc1; omega
      have hWf : toksOf W 0 = toksV (strC' ps) := by unfold toksV; rw [hW, hs.fin hfin]
      rw [hWf]
      refine Gs.exit ?_
      refine Gs.then_x ?_
      refine Gs.then_x ?_
      refine Gs.blk_hit ?_
      refine Gs.then_n ?_
      refine Gs.seq ?_
      refine Gs.reg ?_
      refine Go.Sl.L.pu rfl rfl trivial (pu_move rfl) ?_
      refine Go.Sl.L.pu rfl rfl trivial (pu_assign rfl) ?_
      refine Go.Sl.L.nil ?_
      refine Gs.then_n ?_
      refine Gs.ret ?_
      exact Gs.fin1 Tryz.results21 rfl _ (⟨oa, oc, rfl, rfl⟩) (by repeat constructor)
end Go.Proofs.YtmbikfojljnnkaaGreatDoor
