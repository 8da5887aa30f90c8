/- Walks: tokens.letter, other, Of. -/
import Derived.Test.YtmbikfojljnnkaaGreatDoorIxN
import Derived.Test.YtmbikfojljnnkaaGreatDoorIxA
namespace Go.Sl
open Go
/-- A block that was laid anew. -/
theorem Sat.fresh {w0 w w' : World} {L : List HProp} {A : Nat} {o : Obj} (s : Sat w0 w L) (hb : RowKit.Below w.heap.size w w') (h : w'.heap[A]? = some o) (hA : w.heap.size ≤ A) : Sat w0 w' (Sl.pt A o :: L) := by
  have s' := s.same hb.os hb.tape hb.output hb.size hb.block
  obtain ⟨k, le, l⟩ := s.heap
  have hn : k A = none := by
    cases hk : k A with
    | none => rfl
    | some x => have := (Array.getElem?_eq_some_iff.1 (le A x hk)).1; omega
  refine ⟨s'.os, s'.tape, s'.output, s'.size, Hp.un (fun c => if c = A then some o else none) k, ?_, _, k, ?_, rfl, ⟨by simp, fun c hc => by simp [hc]⟩, l⟩
  · intro c x hx
    by_cases hc : c = A
    · subst hc; simp [Hp.un] at hx; rw [← hx]; exact h
    · simp only [Hp.un, hc, if_false] at hx
      have := le c x hx
      rw [hb.block c (Array.getElem?_eq_some_iff.1 this).1]; exact this
  · intro c
    by_cases hc : c = A
    · subst hc; exact .inr hn
    · exact .inl (by simp [hc])
end Go.Sl
namespace Go.Proofs
open Go.RowKit Go.Shelf
namespace YtmbikfojljnnkaaGreatDoor
open Go Go.Sl Go.Gv Go.Po Go.Ix
set_option maxRecDepth 100000
/-- The library's tables, as laid. -/
def TabX (h0 : Hp) : Prop := Tabs h0 ∧ ∀ w, Hp.le h0 w → Lib.TabIs Tryz.prog w "unicode.properties" .u8 Lib.propertiesTab ∧ Lib.RVar (Tryz.laysLetter_ren.g 8) Lib.letterT w ∧ Lib.RVar (Tryz.laysDigit_ren.g 5) Lib.digitT w ∧ Lib.CaseVar (Tryz.laysLower_ren.g 13) Lib.caseA w
theorem TabX.mono {h0 h1 : Hp} (T : TabX h0) (h : ∀ b o, h0 b = some o → h1 b = some o) : TabX h1 :=
  ⟨fun w hw => T.1 w fun b o e => hw b o (h b o e), fun w hw => T.2 w fun b o e => hw b o (h b o e)⟩
theorem isLetter_ct {h0 : Hp} (T : TabX h0) (r : Int) (hlo : -2147483648 ≤ r) (hhi : r ≤ 2147483647) : Ct Tryz.prog 88 [.int .i32 r] [ro h0] (fun v hs => v = .bool (Lib.isLetterU r) ∧ hs = [ro h0]) :=
  Ct.ofBelow Tryz.func88 rfl (by kernel_rfl) (V := fun _ => .bool (Lib.isLetterU r)) (fun w0 w R st => Any.unicode_IsLetter_all Tryz.laysLetter (by kernel_rfl) r w hlo hhi (T.2 w (Sat.ro st)).1 (T.2 w (Sat.ro st)).2.1) (fun _ => ⟨rfl, rfl⟩)
theorem isDigit_ct {h0 : Hp} (T : TabX h0) (r : Int) (hlo : -2147483648 ≤ r) (hhi : r ≤ 2147483647) : Ct Tryz.prog 89 [.int .i32 r] [ro h0] (fun v hs => v = .bool (Lib.isDigitU r) ∧ hs = [ro h0]) :=
  Ct.ofBelow Tryz.func89 rfl (by kernel_rfl) (V := fun _ => .bool (Lib.isDigitU r)) (fun w0 w R st => Any.unicode_IsDigit_all Tryz.laysDigit r w hlo hhi (T.2 w (Sat.ro st)).2.2.1) (fun _ => ⟨rfl, rfl⟩)
def letB (r : Int) : Bool := Lib.isLetterU r || Lib.isDigitU r
theorem letter_spec {h0 : Hp} (T : TabX h0) (r : Int) (hlo : -2147483648 ≤ r) (hhi : r ≤ 2147483647) : Ct Tryz.prog 95 [.int .i32 r] [ro h0] (fun v hs => v = .bool (letB r) ∧ hs = [ro h0]) := by
  refine Ct.intro Tryz.func95 rfl (by kernel_rfl) 9 Tryz.ntmps95 (Nat.le_of_ble_eq_true rfl) fun w0 R => ?_
  refine Gs.seq ?_
  refine Gs.reg ?_
  refine Go.Sl.L.pu rfl rfl trivial (pu_assign rfl) ?_
  refine Go.Sl.L.nil ?_
  refine Gs.then_n ?_
  refine Gs.seq ?_
  refine Gs.reg ?_
  refine Go.Sl.L.pu rfl rfl trivial (pu_move rfl) ?_
  refine Go.Sl.L.ac rfl rfl trivial (as_call (isLetter_ct T r hlo hhi) (by repeat constructor) (by repeat constructor)) ?_
  rintro _ _ ⟨_, ⟨rfl, rfl⟩, rfl⟩
  refine Go.Sl.L.puB rfl rfl trivial (pu_move rfl) (fun hg2 => ?_) (fun hg2 => ?_)
  · skip
    refine Go.Sl.L.off rfl rfl rfl rfl rfl rfl ?_
    refine Go.Sl.L.off rfl rfl rfl rfl rfl rfl ?_
    refine Go.Sl.L.pu rfl rfl trivial (by first | exact pu_pick_t rfl rfl | exact pu_pick_f rfl rfl) ?_
    refine Go.Sl.L.pu rfl rfl trivial (pu_assign rfl) ?_
    refine Go.Sl.L.nil ?_
    refine Gs.then_n ?_
    refine Gs.ret ?_
    exact Gs.fin1 Tryz.results95 rfl _ (⟨by simp [letB, hg2], rfl⟩) (by repeat constructor)
  · skip
    refine Go.Sl.L.pu rfl rfl ⟨_, rfl, rfl⟩ (pu_move rfl) ?_
    refine Go.Sl.L.ac rfl rfl ⟨_, rfl, rfl⟩ (as_call (isDigit_ct T r hlo hhi) (by repeat constructor) (by repeat constructor)) ?_
    rintro _ _ ⟨_, ⟨rfl, rfl⟩, rfl⟩
    refine Go.Sl.L.pu rfl rfl trivial (by first | exact pu_pick_t rfl rfl | exact pu_pick_f rfl rfl) ?_
    refine Go.Sl.L.pu rfl rfl trivial (pu_assign rfl) ?_
    refine Go.Sl.L.nil ?_
    refine Gs.then_n ?_
    refine Gs.ret ?_
    exact Gs.fin1 Tryz.results95 rfl _ (⟨by simp [letB, hg2], rfl⟩) (by repeat constructor)
theorem other_spec {h0 : Hp} (T : TabX h0) (r : Int) (hlo : -2147483648 ≤ r) (hhi : r ≤ 2147483647) : Ct Tryz.prog 63 [.int .i32 r] [ro h0] (fun v hs => v = .bool (!letB r) ∧ hs = [ro h0]) := by
  refine Ct.intro Tryz.func63 rfl (by kernel_rfl) 6 Tryz.ntmps63 (Nat.le_of_ble_eq_true rfl) fun w0 R => ?_
  refine Gs.seq ?_
  refine Gs.reg ?_
  refine Go.Sl.L.pu rfl rfl trivial (pu_assign rfl) ?_
  refine Go.Sl.L.nil ?_
  refine Gs.then_n ?_
  refine Gs.seq ?_
  refine Gs.reg ?_
  refine Go.Sl.L.pu rfl rfl trivial (pu_move rfl) ?_
  refine Go.Sl.L.ac rfl rfl trivial (as_call (letter_spec T r hlo hhi) (by repeat constructor) (by repeat constructor)) ?_
  rintro _ _ ⟨_, ⟨rfl, rfl⟩, rfl⟩
  refine Go.Sl.L.pu rfl rfl trivial (pu_not rfl) ?_
  refine Go.Sl.L.pu rfl rfl trivial (pu_assign rfl) ?_
  refine Go.Sl.L.nil ?_
  refine Gs.then_n ?_
  refine Gs.ret ?_
  exact Gs.fin1 Tryz.results63 rfl _ (⟨rfl, rfl⟩) (by repeat constructor)
def notW (x : Nat) : Bool := !letB (x : Int)
theorem other_pays {h0 : Hp} (T : TabX h0) {w : World} (hw : Hp.le h0 w) : PredGrows Tryz.prog 63 #[] notW w := by
  intro W x hx hb
  have hle : ∀ b o, h0 b = some o → whole W b = some o := fun b o e => by
    have h1 := hw b o e
    show W.heap[b]? = some o
    rw [hb.block b (Array.getElem?_eq_some_iff.1 h1).1]; exact h1
  refine ((other_spec (T.mono hle) (x : Int) (by omega) (by omega)).calls W W [] (Sat.start W)).mono ?_
  rintro e w' ⟨v, hs, he, ⟨hv, hhs⟩, hsat⟩
  subst hv; subst hhs
  exact ⟨he, Sat.below hsat⟩
theorem fields_spec {h0 : Hp} (T : TabX h0) (s : ByteArray) (hs : s.size ≤ 4294967296) : Ct Tryz.prog 62 [.string s, .func (.func 63) #[] #[]] [ro h0]
    (fun v hs => ∃ a c, v = .slice a (Lib.goFieldsP notW s).length c ∧ hs = [ro h0, sl 9 1 strC a c (Lib.goFieldsP notW s)]) := by
  refine ⟨enters_of Tryz.func62 (by kernel_rfl) rfl _, fun w0 w R st => ?_⟩
  refine (Any.strings_FieldsFunc_grows Tryz.laysFF 63 #[] (enters_of Tryz.func63 (by kernel_rfl) rfl) notW s w hs (other_pays T (Sat.ro st)) (by kernel_rfl) (by kernel_rfl)).mono ?_
  rintro e w' ⟨A, rfl, hA, hown, hb⟩
  obtain ⟨h1, h2⟩ := hown
  rcases h2 with ⟨h, -⟩ | ⟨g, cap, cur, hv, hg, hc, hn, hm, hsz, htk⟩
  · cases h
  · cases hv
    refine ⟨_, _, rfl, ⟨some ⟨A, 0, none⟩, _, rfl, rfl⟩, ?_⟩
    have s2 := (Sat.fresh st hb hc hA).ent (sl_new (E := 9) (sz := 1) (enc := strC) (c := (Lib.goFieldsP notW s).length) (xs := Lib.goFieldsP notW s) (Nat.le_refl _) (by omega) (fun i x hi j v hj => ?_))
    · exact Ent.sat (.cons (.tl .hd) (.cons .hd .refl)) s2
    · have hj0 : j = 0 ∧ v = .string x := by
        cases j with
        | zero => simp at hj; exact ⟨rfl, hj.symm⟩
        | succ j => simp at hj
      obtain ⟨rfl, rfl⟩ := hj0
      have hil := (List.getElem?_eq_some_iff.1 hi).1
      have : (cur.toList.take ((Lib.goFieldsP notW s).length * 1))[i]? = some (.string x) := by rw [htk, List.getElem?_map, hi]; rfl
      rw [List.getElem?_take, if_pos (by omega)] at this
      simpa using this
theorem norm_spec {h0 : Hp} (T : TabX h0) (s : ByteArray) (hs : s.size ≤ 35184372088832) : Ct Tryz.prog 64 [.string s] [ro h0] (fun v hs => v = .string (normB s) ∧ hs = [ro h0]) :=
  Ct.ofBelow Tryz.func64 rfl (by kernel_rfl) (V := fun _ => .string (normB s)) (fun w0 w R st => norm_walk s w hs (T.1 w (Sat.ro st)) (T.2 w (Sat.ro st)).2.2.2) (fun _ => ⟨rfl, rfl⟩)
theorem spans_len (p : Nat → Bool) (s : ByteArray) : ∀ (f pos : Nat) (st : Option Nat) (acc : List (Nat × Nat)), (Lib.spansFromP p s f pos st acc).1.length ≤ acc.length + f
  | 0, _, _, acc => by simp [Lib.spansFromP]
  | f + 1, pos, st, acc => by
    unfold Lib.spansFromP
    split
    · split
      · split
        · refine Nat.le_trans (spans_len p s f _ _ _) ?_; simp; omega
        · refine Nat.le_trans (spans_len p s f _ _ _) ?_; omega
      · split <;> (refine Nat.le_trans (spans_len p s f _ _ _) ?_; omega)
    · simp
theorem fields_len (p : Nat → Bool) (s : ByteArray) : (Lib.goFieldsP p s).length ≤ s.size + 1 := by
  have := spans_len p s s.size 0 none []
  unfold Lib.goFieldsP Lib.spansOfP Lib.closeSpans
  rw [List.length_map]
  split
  · rw [List.length_append]; simp at this ⊢; omega
  · simp at this; omega
theorem fields_size {p : Nat → Bool} {s w : ByteArray} (h : w ∈ Lib.goFieldsP p s) : w.size ≤ s.size := by
  obtain ⟨x, -, rfl⟩ := List.mem_map.1 h
  rw [ByteArray.size_extract]; omega
/-- A text's words, and where they stand. -/
def wordsB (s : ByteArray) : List ByteArray := if textB s then (Lib.goFieldsP notW s).map normB else []
def toksOf (l : List ByteArray) (i : Nat) : List WordP := (l.zipIdx i).map fun p => (p.1, (p.2 : Int))
def toksV (s : ByteArray) : List WordP := toksOf (wordsB s) 0
theorem toks_snoc (l : List ByteArray) (w : ByteArray) (i : Nat) : toksOf (l ++ [w]) i = toksOf l i ++ [(w, ((i + l.length : Nat) : Int))] := by
  unfold toksOf; rw [List.zipIdx_append, List.map_append]; simp
theorem toks_length (l : List ByteArray) (i : Nat) : (toksOf l i).length = l.length := by unfold toksOf; simp
theorem words_len (s : ByteArray) : (wordsB s).length ≤ 121 := by
  unfold wordsB; split
  · rename_i h
    have := fields_len notW s
    simp only [textB, Bool.and_eq_true, decide_eq_true_eq] at h
    rw [List.length_map]; omega
  · exact Nat.zero_le _
theorem of_spec {h0 : Hp} (T : TabX h0) (s : ByteArray) : Ct Tryz.prog 29 [.string s] [ro h0] (fun v hs => ∃ a c, v = .slice a (toksV s).length c ∧ hs = [ro h0, sl 52 2 wordC a c (toksV s)]) := by
  refine Ct.intro Tryz.func29 rfl (by kernel_rfl) 26 Tryz.ntmps29 (Nat.le_of_ble_eq_true rfl) fun w0 R => ?_
  refine Gs.seq ?_
  refine Gs.reg ?_
  refine Go.Sl.L.pu rfl rfl trivial (pu_assign rfl) ?_
  refine Go.Sl.L.nil ?_
  refine Gs.then_n ?_
  refine Gs.seq ?_
  refine Gs.seq ?_
  refine Gs.reg ?_
  refine Go.Sl.L.pu rfl rfl trivial (pu_move rfl) ?_
  refine Go.Sl.L.ac rfl rfl trivial (as_call (textMay_spec T.1 s) (by repeat constructor) (by repeat constructor)) ?_
  rintro _ _ ⟨_, ⟨rfl, rfl⟩, rfl⟩
  refine Go.Sl.L.pu rfl rfl trivial (pu_not rfl) ?_
  refine Go.Sl.L.nil ?_
  refine Gs.then_n ?_
  refine Gs.cond rfl (fun hc0 => ?_) (fun hc0 => ?_)
  · skip
    have hno : toksV s = [] := by unfold toksV wordsB; rw [not_t hc0]; rfl
    refine Gs.seq ?_
    refine Gs.reg ?_
    refine Go.Sl.L.pu rfl rfl trivial (pu_assign rfl) ?_
    refine Go.Sl.L.nil ?_
    refine Gs.then_n ?_
    refine Gs.ret ?_
    refine Gs.then_r ?_
    refine Gs.slNil 52 2 wordC ?_
    exact Gs.fin1 Tryz.results29 rfl _ (⟨none, 0, by rw [hno]; rfl, by rw [hno]⟩) (by repeat constructor)
  · skip
    have hyes : wordsB s = (Lib.goFieldsP notW s).map normB := if_pos (not_f hc0)
    have hsz : s.size ≤ 120 := by have := not_f hc0; simp only [textB, Bool.and_eq_true, decide_eq_true_eq] at this; omega
    have hfl := fields_len notW s
    refine Gs.skip ?_
    refine Gs.then_n ?_
    refine Gs.seq ?_
    refine Gs.reg ?_
    refine Go.Sl.L.pu rfl rfl trivial (pu_assign rfl) ?_
    refine Go.Sl.L.nil ?_
    refine Gs.slNil 52 2 wordC ?_
    refine Gs.then_n ?_
    refine Gs.seq ?_
    refine Gs.seq ?_
    refine Gs.reg ?_
    refine Go.Sl.L.pu rfl rfl trivial (pu_move rfl) ?_
    refine Go.Sl.L.ac rfl rfl trivial (as_call (fields_spec T s (by omega)) (by repeat constructor) (by repeat constructor)) ?_
    rintro _ _ ⟨_, ⟨fa, fc, rfl, rfl⟩, rfl⟩
    refine Go.Sl.L.pu rfl rfl trivial (pu_len Tryz.underlying58 rfl) ?_
    refine Go.Sl.L.pu rfl rfl trivial (pu_move rfl) ?_
    refine Go.Sl.L.nil ?_
    refine Gs.slAddr (xs := Lib.goFieldsP notW s) (SlH.own (E := 9) (enc := strC) (a := fa) (c := fc) (by repeat constructor)) fun fb fo hfa => ?_
    refine Gs.then_n ?_
    refine Gs.block ?_
    refine Gs.loop1 (fun s1 : Nat × (Option Addr × Nat) × List WordP => s1.1 ≤ (Lib.goFieldsP notW s).length ∧ s1.2.2 = toksOf (((Lib.goFieldsP notW s).take s1.1).map normB) 0) (fun s1 => [(3, .slice s1.2.1.1 s1.2.2.length s1.2.1.2), (10, .slice fa (Lib.goFieldsP notW s).length fc), (11, int (Lib.goFieldsP notW s).length), (12, int s1.1)]) (fun s1 => [ro h0, sl 9 1 strC fa fc (Lib.goFieldsP notW s), sl 52 2 wordC s1.2.1.1 s1.2.1.2 s1.2.2] ++ R) (fun s1 => (Lib.goFieldsP notW s).length - s1.1) (0, (none, 0), []) (⟨Nat.zero_le _, rfl⟩) (by repeat constructor) (by repeat constructor) (fun s1 hs => ?_)
    obtain ⟨i, ⟨ka, kc⟩, K⟩ := s1
    obtain ⟨hi, hK⟩ := hs
    dsimp only at hi hK ⊢
    have hKl : K.length ≤ 121 := by rw [hK, toks_length, List.length_map, List.length_take]; omega
    refine Gs.seq ?_
    refine Gs.reg ?_
    refine Go.Sl.L.pu rfl rfl trivial (pu_lt rfl rfl) ?_
    refine Go.Sl.L.nil ?_
    refine Gs.then_n ?_
    refine Gs.seq ?_
    refine Gs.cond rfl (fun hc1 => ?_) (fun hc1 => ?_)
    · skip
      have hlt : i < (Lib.goFieldsP notW s).length := by have := of_decide_eq_true hc1; omega
      obtain ⟨w, hw⟩ : ∃ x, (Lib.goFieldsP notW s)[i]? = some x := ⟨(Lib.goFieldsP notW s)[i], by simp [hlt]⟩
      obtain rfl := hfa (by intro e; rw [e] at hw; simp at hw)
      have hwz := fields_size (List.mem_of_getElem? hw)
      have hin : K ++ [(normB w, (i : Int))] = toksOf (((Lib.goFieldsP notW s).take (i + 1)).map normB) 0 := by
        have hl : (((Lib.goFieldsP notW s).take i).map normB).length = i := by rw [List.length_map, List.length_take]; omega
        rw [List.take_add_one, hw, List.map_append, show (some w).toList.map normB = [normB w] from rfl, toks_snoc, hl, Nat.zero_add, hK]
      refine Gs.skip ?_
      refine Gs.then_n ?_
      refine Gs.seq ?_
      refine Gs.block ?_
      refine Gs.seq ?_
      refine Gs.reg ?_
      refine Go.Sl.L.pu rfl rfl trivial (pu_move rfl) ?_
      refine Go.Sl.L.pu rfl rfl trivial (pu_ia se_58 rfl rfl (by omega) (by omega)) ?_
      refine Go.Sl.L.rd rfl rfl trivial (rd_ld na_9 rfl (Rdc.el0 (SlH.own (xs := Lib.goFieldsP notW s) (E := 9) (c := fc) (by repeat constructor)) hw rfl rfl)) ?_
      refine Go.Sl.L.pu rfl rfl trivial (pu_assign rfl) ?_
      refine Go.Sl.L.pu rfl rfl trivial (pu_assign rfl) ?_
      refine Go.Sl.L.nil ?_
      refine Gs.then_n ?_
      refine Gs.reg ?_
      refine Go.Sl.L.pu rfl rfl trivial (pu_move rfl) ?_
      refine Go.Sl.L.pu rfl rfl trivial (pu_move rfl) ?_
      refine Go.Sl.L.ac rfl rfl trivial (as_call (norm_spec T w (by omega)) (by repeat constructor) (by repeat constructor)) ?_
      rintro _ _ ⟨_, ⟨rfl, rfl⟩, rfl⟩
      refine Go.Sl.L.pu rfl rfl trivial (pu_move rfl) ?_
      refine Go.Sl.L.pu rfl rfl trivial (pu_build bd_52 (by repeat constructor) rfl) ?_
      refine Go.Sl.L.ac rfl rfl trivial (ac_lit encC_52 ([(normB w, (i : Int))]) et_49 ek_52 rfl (by repeat constructor) rfl rfl (by decide)) ?_
      rintro _ _ ⟨a22, rfl, rfl⟩
      refine Go.Sl.L.ac rfl rfl trivial (ac_append (xs := K) (ys := [(normB w, (i : Int))]) et_49 ek_52 rfl rfl (by repeat constructor) (SrcH.sl Tryz.underlying49 ek_52 (SlH.own (by repeat constructor))) (by first | omega | (simp; omega)) (by first | omega | (simp; omega))) ?_
      rintro _ _ ⟨a23, c23, rfl, rfl⟩
      refine Go.Sl.L.pu rfl rfl trivial (pu_assign rfl) ?_
      refine Go.Sl.L.nil ?_
      refine Gs.blk_n ?_
      refine Gs.then_n ?_
      refine Gs.reg ?_
      refine Go.Sl.L.pu rfl rfl trivial (by first | exact pu_addI rfl rfl rfl (by omega) (by omega) | exact pu_add rfl rfl) ?_
      refine Go.Sl.L.pu rfl rfl trivial (pu_move rfl) ?_
      refine Go.Sl.L.nil ?_
      refine Gs.then_n ?_
      exact Gs.again1 (i + 1, (a23, c23), K ++ [(normB w, (i : Int))]) ⟨by show i + 1 ≤ _; omega, hin⟩ (by show _ - (i + 1) < _ - i; omega) (by repeat constructor) (by repeat constructor)
    · skip
      have hge : i = (Lib.goFieldsP notW s).length := by have := of_decide_eq_false hc1; omega
      rw [hge, List.take_length, ← hyes] at hK
      have hK2 : K = toksV s := hK
      subst hK2
      refine Gs.exit ?_
      refine Gs.then_x ?_
      refine Gs.then_x ?_
      refine Gs.blk_hit ?_
      refine Gs.then_n ?_
      refine Gs.seq ?_
      refine Gs.reg ?_
      refine Go.Sl.L.pu rfl rfl trivial (pu_move rfl) ?_
      refine Go.Sl.L.pu rfl rfl trivial (pu_assign rfl) ?_
      refine Go.Sl.L.nil ?_
      refine Gs.then_n ?_
      refine Gs.ret ?_
      exact Gs.fin1 Tryz.results29 rfl _ (⟨ka, kc, rfl, rfl⟩) (by repeat constructor)
end YtmbikfojljnnkaaGreatDoor
end Go.Proofs
