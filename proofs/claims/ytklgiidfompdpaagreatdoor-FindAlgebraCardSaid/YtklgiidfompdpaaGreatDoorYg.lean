/- What the closing leans on: part 7. -/
import Derived.Test.YtklgiidfompdpaaGreatDoorYf
import Derived.Test.YtklgiidfompdpaaGreatDoorYe
import Derived.Test.YtklgiidfompdpaaGreatDoorYd
import Derived.Test.YtklgiidfompdpaaGreatDoorYc
import Derived.Test.YtklgiidfompdpaaGreatDoorYb
namespace Go.Sl
open Go
theorem Sat.fresh {w0 w w' : World} {L : List HProp} {A : Nat} {o : Obj} (s : Sat w0 w L) (hb : RowKit.Below w.heap.size w w') (h : w'.heap[A]? = some o) (hA : w.heap.size ≤ A) : Sat w0 w' (Sl.pt A o :: L) := by
 have s' := s.same hb.os hb.tape hb.output hb.size hb.block
 obtain ⟨k, le, l⟩ := s.heap
 have hn : k A = none := by
   cases hk : k A with
   | none => rfl
   | some x => have := (Array.getElem?_eq_some_iff.1 (le A x hk)).1; omega
 refine ⟨s'.os, s'.tape, s'.output, s'.size, Hp.un (fun c => if c = A then some o else none) k, ?_, _, k, ?_, rfl, ⟨by simp, fun c hc => by simp [hc]⟩, l⟩
 · intro c x hx
   by_cases hc : c = A
   · subst hc; simp [Hp.un] at hx; rw [← hx]; exact h
   · simp only [Hp.un, hc, if_false] at hx
     have := le c x hx
     rw [hb.block c (Array.getElem?_eq_some_iff.1 this).1]; exact this
 · intro c
   by_cases hc : c = A
   · subst hc; exact .inr hn
   · exact .inl (by simp [hc])
end Go.Sl
namespace Go.Proofs
open Go.RowKit Go.Shelf
namespace YtklgiidfompdpaaGreatDoor
open Go Go.Sl Go.Gv Go.Po Go.Ix
set_option maxRecDepth 100000
def TabX (h0 : Hp) : Prop := Tabs h0 ∧ ∀ w, Hp.le h0 w → Lib.TabIs Tryz.prog w "unicode.properties" .u8 Lib.propertiesTab ∧ Lib.RVar (Tryz.laysLetter_ren.g 8) Lib.letterT w ∧ Lib.RVar (Tryz.laysDigit_ren.g 5) Lib.digitT w ∧ Lib.CaseVar (Tryz.laysLower_ren.g 13) Lib.caseA w
theorem TabX.mono {h0 h1 : Hp} (T : TabX h0) (h : ∀ b o, h0 b = some o → h1 b = some o) : TabX h1 :=
 ⟨fun w hw => T.1 w fun b o e => hw b o (h b o e), fun w hw => T.2 w fun b o e => hw b o (h b o e)⟩
theorem isLetter_ct {h0 : Hp} (T : TabX h0) (r : Int) (hlo : -2147483648 ≤ r) (hhi : r ≤ 2147483647) : Ct Tryz.prog 107 [.int .i32 r] [ro h0] (fun v hs => v = .bool (Lib.isLetterU r) ∧ hs = [ro h0]) :=
 Ct.ofBelow Tryz.func107 rfl (by kernel_rfl) (V := fun _ => .bool (Lib.isLetterU r)) (fun w0 w R st => Any.unicode_IsLetter_all Tryz.laysLetter (by kernel_rfl) r w hlo hhi (T.2 w (Sat.ro st)).1 (T.2 w (Sat.ro st)).2.1) (fun _ => ⟨rfl, rfl⟩)
theorem isDigit_ct {h0 : Hp} (T : TabX h0) (r : Int) (hlo : -2147483648 ≤ r) (hhi : r ≤ 2147483647) : Ct Tryz.prog 108 [.int .i32 r] [ro h0] (fun v hs => v = .bool (Lib.isDigitU r) ∧ hs = [ro h0]) :=
 Ct.ofBelow Tryz.func108 rfl (by kernel_rfl) (V := fun _ => .bool (Lib.isDigitU r)) (fun w0 w R st => Any.unicode_IsDigit_all Tryz.laysDigit r w hlo hhi (T.2 w (Sat.ro st)).2.2.1) (fun _ => ⟨rfl, rfl⟩)
def letB (r : Int) : Bool := Lib.isLetterU r || Lib.isDigitU r
theorem letter_spec {h0 : Hp} (T : TabX h0) (r : Int) (hlo : -2147483648 ≤ r) (hhi : r ≤ 2147483647) : Ct Tryz.prog 141 [.int .i32 r] [ro h0] (fun v hs => v = .bool (letB r) ∧ hs = [ro h0]) := by
 refine Cti Tryz.func141 (by kernel_rfl) 9 Tryz.ntmps141 rfl rfl fun w0 R => ?_
 refine Gsr (Las rfl rfl (Lnt (Gsr (Lmv rfl rfl (La rfl (asC (isLetter_ct T r hlo hhi)) ?_)))))
 rintro _ _ ⟨_, ⟨rfl, rfl⟩, rfl⟩
 refine LpuB rfl rfl trivial (pu_move rfl) (fun hg2 => ?_) (fun hg2 => ?_)
 ·
  refine Lof rfl (Lof rfl (Lpk rfl rfl rfl (Las rfl rfl (Lnt (Gs.ret ?_)))))
  exact Gs.fin1 Tryz.results141 rfl _ (⟨by simp [letB, hg2], rfl⟩) (by repeat constructor)
 refine Lpu rfl rfl ⟨_, rfl, rfl⟩ (pu_move rfl) (Lac rfl rfl ⟨_, rfl, rfl⟩ (asC (isDigit_ct T r hlo hhi)) ?_)
 rintro _ _ ⟨_, ⟨rfl, rfl⟩, rfl⟩
 refine Lpk rfl rfl rfl (Las rfl rfl (Lnt (Gs.ret ?_)))
 exact Gs.fin1 Tryz.results141 rfl _ (⟨by simp [letB, hg2], rfl⟩) (by repeat constructor)
theorem other_spec {h0 : Hp} (T : TabX h0) (r : Int) (hlo : -2147483648 ≤ r) (hhi : r ≤ 2147483647) : Ct Tryz.prog 94 [.int .i32 r] [ro h0] (fun v hs => v = .bool (!letB r) ∧ hs = [ro h0]) := by
 refine Cti Tryz.func94 (by kernel_rfl) 6 Tryz.ntmps94 rfl rfl fun w0 R => ?_
 refine Gsr (Las rfl rfl (Lnt (Gsr (Lmv rfl rfl (La rfl (asC (letter_spec T r hlo hhi)) ?_)))))
 rintro _ _ ⟨_, ⟨rfl, rfl⟩, rfl⟩
 refine Lq rfl (pu_not rfl) (Las rfl rfl (Lnt (Gs.ret ?_)))
 exact Gs.fin1 Tryz.results94 rfl _ (⟨rfl, rfl⟩) (by repeat constructor)
def notW (x : Nat) : Bool := !letB (x : Int)
theorem other_pays {h0 : Hp} (T : TabX h0) {w : World} (hw : Hp.le h0 w) : PredGrows Tryz.prog 94 #[] notW w := by
 intro W x hx hb
 have hle : ∀ b o, h0 b = some o → whole W b = some o := fun b o e => by
   have h1 := hw b o e
   show W.heap[b]? = some o
   rw [hb.block b (Array.getElem?_eq_some_iff.1 h1).1]; exact h1
 refine ((other_spec (T.mono hle) (x : Int) (by omega) (by omega)).calls W W [] (Sat.start W)).mono ?_
 rintro e w' ⟨v, hs, he, ⟨hv, hhs⟩, hsat⟩
 subst hv; subst hhs
 exact ⟨he, Sat.below hsat⟩
theorem fields_spec {h0 : Hp} (T : TabX h0) (s : ByteArray) (hs : s.size ≤ 4294967296) : Ct Tryz.prog 93 [.string s, .func (.func 94) #[] #[]] [ro h0]
   (fun v hs => ∃ a c, v = .slice a (Lib.goFieldsP notW s).length c ∧ hs = [ro h0, sl 9 1 strC a c (Lib.goFieldsP notW s)]) := by
 refine ⟨enters_of Tryz.func93 (by kernel_rfl) rfl _, fun w0 w R st => ?_⟩
 refine (Any.strings_FieldsFunc_grows Tryz.laysFF 94 #[] (enters_of Tryz.func94 (by kernel_rfl) rfl) notW s w hs (other_pays T (Sat.ro st)) (by kernel_rfl) (by kernel_rfl)).mono ?_
 rintro e w' ⟨A, rfl, hA, hown, hb⟩
 obtain ⟨h1, h2⟩ := hown
 rcases h2 with ⟨h, -⟩ | ⟨g, cap, cur, hv, hg, hc, hn, hm, hsz, htk⟩
 · cases h
 · cases hv
   refine ⟨_, _, rfl, ⟨some ⟨A, 0, none⟩, _, rfl, rfl⟩, ?_⟩
   have s2 := (Sat.fresh st hb hc hA).ent (sl_new (E := 9) (sz := 1) (enc := strC) (c := (Lib.goFieldsP notW s).length) (xs := Lib.goFieldsP notW s) (Nat.le_refl _) (by omega) (fun i x hi j v hj => ?_))
   · exact Ent.sat (.cons (.tl .hd) (.cons .hd .refl)) s2
   · have hj0 : j = 0 ∧ v = .string x := by
       cases j with
       | zero => simp at hj; exact ⟨rfl, hj.symm⟩
       | succ j => simp at hj
     obtain ⟨rfl, rfl⟩ := hj0
     have hil := (List.getElem?_eq_some_iff.1 hi).1
     have : (cur.toList.take ((Lib.goFieldsP notW s).length * 1))[i]? = some (.string x) := by rw [htk, List.getElem?_map, hi]; rfl
     rw [List.getElem?_take, if_pos (by omega)] at this
     simpa using this
theorem norm_spec {h0 : Hp} (T : TabX h0) (s : ByteArray) (hs : s.size ≤ 35184372088832) : Ct Tryz.prog 95 [.string s] [ro h0] (fun v hs => v = .string (normB s) ∧ hs = [ro h0]) :=
 Ct.ofBelow Tryz.func95 rfl (by kernel_rfl) (V := fun _ => .string (normB s)) (fun w0 w R st => norm_walk s w hs (T.1 w (Sat.ro st)) (T.2 w (Sat.ro st)).2.2.2) (fun _ => ⟨rfl, rfl⟩)
theorem spans_len (p : Nat → Bool) (s : ByteArray) : ∀ (f pos : Nat) (st : Option Nat) (acc : List (Nat × Nat)), (Lib.spansFromP p s f pos st acc).1.length ≤ acc.length + f
 | 0, _, _, acc => by simp [Lib.spansFromP]
 | f + 1, pos, st, acc => by
   unfold Lib.spansFromP
   split
   · split
     · split
       · refine Nat.le_trans (spans_len p s f _ _ _) ?_; simp; omega
       · refine Nat.le_trans (spans_len p s f _ _ _) ?_; omega
     · split <;> (refine Nat.le_trans (spans_len p s f _ _ _) ?_; omega)
   · simp
theorem fields_len (p : Nat → Bool) (s : ByteArray) : (Lib.goFieldsP p s).length ≤ s.size + 1 := by
 have := spans_len p s s.size 0 none []
 unfold Lib.goFieldsP Lib.spansOfP Lib.closeSpans
 rw [List.length_map]
 split
 · rw [List.length_append]; simp at this ⊢; omega
 · simp at this; omega
theorem fields_size {p : Nat → Bool} {s w : ByteArray} (h : w ∈ Lib.goFieldsP p s) : w.size ≤ s.size := by
 obtain ⟨x, -, rfl⟩ := List.mem_map.1 h
 rw [ByteArray.size_extract]; omega
def wordsB (s : ByteArray) : List ByteArray := if textB s then (Lib.goFieldsP notW s).map normB else []
def toksOf (l : List ByteArray) (i : Nat) : List WordP := (l.zipIdx i).map fun p => (p.1, (p.2 : Int))
def toksV (s : ByteArray) : List WordP := toksOf (wordsB s) 0
theorem toks_snoc (l : List ByteArray) (w : ByteArray) (i : Nat) : toksOf (l ++ [w]) i = toksOf l i ++ [(w, ((i + l.length : Nat) : Int))] := by
 unfold toksOf; rw [List.zipIdx_append, List.map_append]; simp
theorem toks_length (l : List ByteArray) (i : Nat) : (toksOf l i).length = l.length := by unfold toksOf; simp
theorem words_len (s : ByteArray) : (wordsB s).length ≤ 121 := by
 unfold wordsB; split
 · rename_i h
   have := fields_len notW s
   simp only [textB, Bool.and_eq_true, decide_eq_true_eq] at h
   rw [List.length_map]; omega
 · exact Nat.zero_le _
theorem of_spec {h0 : Hp} (T : TabX h0) (s : ByteArray) : Ct Tryz.prog 49 [.string s] [ro h0] (fun v hs => ∃ a c, v = .slice a (toksV s).length c ∧ hs = [ro h0, sl 98 2 wordC a c (toksV s)]) := by
 refine Cti Tryz.func49 (by kernel_rfl) 26 Tryz.ntmps49 rfl rfl fun w0 R => ?_
 refine Gsr (Las rfl rfl (Lnt (Gs.seq (Gsr (Lmv rfl rfl (La rfl (asC (textMay_spec T.1 s)) ?_))))))
 rintro _ _ ⟨_, ⟨rfl, rfl⟩, rfl⟩
 refine Lq rfl (pu_not rfl) (Lnt (Gs.cond rfl (fun hc0 => ?_) (fun hc0 => ?_)))
 ·
  have hno : toksV s = [] := by unfold toksV wordsB; rw [not_t hc0]; rfl
  refine Gsr (Las rfl rfl (Lnt (Gs.ret (Gr (Gs.slNil 98 2 wordC ?_)))))
  exact Gs.fin1 Tryz.results49 rfl _ (⟨none, 0, by rw [hno]; rfl, by rw [hno]⟩) (by repeat constructor)
 have hyes : wordsB s = (Lib.goFieldsP notW s).map normB := if_pos (not_f hc0)
 have hsz : s.size ≤ 120 := by have := not_f hc0; simp only [textB, Bool.and_eq_true, decide_eq_true_eq] at this; omega
 have hfl := fields_len notW s
 refine Gs.skip (Gn (Gsr (Las rfl rfl (Lnil (Gs.slNil 98 2 wordC (Gn (Gs.seq (Gsr (Lmv rfl rfl (La rfl (asC (fields_spec T s (by omega))) ?_))))))))))
 rintro _ _ ⟨_, ⟨fa, fc, rfl, rfl⟩, rfl⟩
 refine Lq rfl (pu_len Tryz.underlying23 rfl) (Lmv rfl rfl (Lnil (Gs.slAddr (xs := Lib.goFieldsP notW s) (SlH.own (E := 9) (enc := strC) (a := fa) (c := fc) (by repeat constructor)) fun fb fo hfa => ?_)))
 refine Gn (Gs.block (Gs.loop1 (fun s1 : Nat × (Option Addr × Nat) × List WordP => s1.1 ≤ (Lib.goFieldsP notW s).length ∧ s1.2.2 = toksOf (((Lib.goFieldsP notW s).take s1.1).map normB) 0) (fun s1 => [(3, .slice s1.2.1.1 s1.2.2.length s1.2.1.2), (10, .slice fa (Lib.goFieldsP notW s).length fc), (11, int (Lib.goFieldsP notW s).length), (12, int s1.1)]) (fun s1 => [ro h0, sl 9 1 strC fa fc (Lib.goFieldsP notW s), sl 98 2 wordC s1.2.1.1 s1.2.1.2 s1.2.2] ++ R) (fun s1 => (Lib.goFieldsP notW s).length - s1.1) (0, (none, 0), []) (⟨Nat.zero_le _, rfl⟩) (by repeat constructor) (by repeat constructor) (fun s1 hs => ?_)))
 obtain ⟨i, ⟨ka, kc⟩, K⟩ := s1
 obtain ⟨hi, hK⟩ := hs
 dsimp only at hi hK ⊢
 have hKl : K.length ≤ 121 := by rw [hK, toks_length, List.length_map, List.length_take]; omega
 refine Gsr (Lq rfl (pu_lt rfl rfl) (Lnt (Gs.seq (Gs.cond rfl (fun hc1 => ?_) (fun hc1 => ?_)))))
 ·
  have hlt : i < (Lib.goFieldsP notW s).length := by have := of_decide_eq_true hc1; omega
  obtain ⟨w, hw⟩ : ∃ x, (Lib.goFieldsP notW s)[i]? = some x := ⟨(Lib.goFieldsP notW s)[i], by simp [hlt]⟩
  obtain rfl := hfa (by intro e; rw [e] at hw; simp at hw)
  have hwz := fields_size (List.mem_of_getElem? hw)
  have hin : K ++ [(normB w, (i : Int))] = toksOf (((Lib.goFieldsP notW s).take (i + 1)).map normB) 0 := by
    have hl : (((Lib.goFieldsP notW s).take i).map normB).length = i := by rw [List.length_map, List.length_take]; omega
    rw [List.take_add_one, hw, List.map_append, show (some w).toList.map normB = [normB w] from rfl, toks_snoc, hl, Nat.zero_add, hK]
  refine Gs.skip (Gn (Gs.seq (Gs.block (Gsr (Lmv rfl rfl (Lq rfl (pu_ia se_23 rfl rfl (by omega) (by omega)) (Lr rfl (rd_ld na_9 rfl (Rdc.el0 (SlH.own (xs := Lib.goFieldsP notW s) (E := 9) (c := fc) (by repeat constructor)) hw rfl rfl)) ?_)))))))
  refine Las rfl rfl (Las rfl rfl (Lnt (Gs.reg (Lmv rfl rfl (Lmv rfl rfl (La rfl (asC (norm_spec T w (by omega))) ?_))))))
  rintro _ _ ⟨_, ⟨rfl, rfl⟩, rfl⟩
  refine Lmv rfl rfl (Lq rfl (pu_build bd_98 (by repeat constructor) rfl) ?_)
  refine La rfl (ac_lit encC_98 ([(normB w, (i : Int))]) et_83 ek_98 rfl (by repeat constructor) rfl rfl (by decide)) ?_
  rintro _ _ ⟨a22, rfl, rfl⟩
  refine La rfl (ac_append (xs := K) (ys := [(normB w, (i : Int))]) et_83 ek_98 rfl rfl (by repeat constructor) (SrcH.sl Tryz.underlying83 ek_98 (SlH.own (by repeat constructor))) (by first | omega | (simp; omega)) (by first | omega | (simp; omega))) ?_
  rintro _ _ ⟨a23, c23, rfl, rfl⟩
  refine Las rfl rfl (Lnil (Gs.blk_n (Gn (Gs.reg (Lq rfl (by first | exact pu_addI rfl rfl rfl (by omega) (by omega) | exact pu_add rfl rfl) ?_)))))
  refine Lmv rfl rfl (Lnt ?_)
  exact Ag (i + 1, (a23, c23), K ++ [(normB w, (i : Int))]) ⟨by show i + 1 ≤ _; omega, hin⟩ (by show _ - (i + 1) < _ - i; omega)
 have hge : i = (Lib.goFieldsP notW s).length := by have := of_decide_eq_false hc1; omega
 rw [hge, List.take_length, ← hyes] at hK
 have hK2 : K = toksV s := hK
 subst hK2
 refine Gs.exit (Gx (Gx (Gs.blk_hit (Gn (Gsr (Lmv rfl rfl (Las rfl rfl (Lnt (Gs.ret ?_)))))))))
 exact Gs.fin1 Tryz.results49 rfl _ (⟨ka, kc, rfl, rfl⟩) (by repeat constructor)
end YtklgiidfompdpaaGreatDoor
end Go.Proofs
namespace Go.Ix
open Go Go.Sl Go.Gv Go.Kv Go.Po Go.Bst
def posStep (m : List (ByteArray × List Int)) (p : WordP) : List (ByteArray × List Int) := mput m p.1 ((mget m p.1).getD [] ++ [p.2])
def posL (T : List WordP) : List (ByteArray × List Int) := T.foldl posStep []
def putW (k : Key) (m : PL) (e : ByteArray × List Int) : PL := mput m e.1 (putP ((mget m e.1).getD []) (k, e.2))
theorem filter_two {α : Type} {f g : α → Bool} (h : ∀ x, f x = true → g x = true → False) : ∀ L : List α, (L.filter f).length + (L.filter g).length ≤ L.length
 | [] => Nat.le_refl _
 | x :: L => by
   have ih := filter_two h L
   have := h x
   rw [List.filter_cons, List.filter_cons]
   cases hf : f x <;> cases hg : g x <;> simp_all <;> omega
theorem putP_le (L : List PostP) (x : PostP) : (putP L x).length ≤ L.length + 1 := by
 unfold putP
 split
 · split
   · have := filter_two (f := fun y : PostP => before y.1 x.1) (g := fun y : PostP => before x.1 y.1) (fun y h1 h2 => by have := before_asymm h1; simp_all) L
     simp only [List.length_append, List.length_cons, List.length_nil]; omega
   · omega
 · exact Nat.zero_le _
theorem putP_sub {L : List PostP} {x p : PostP} (h : p ∈ putP L x) : p = x ∨ p ∈ L := by
 unfold putP at h
 split at h
 · split at h
   · simp only [List.mem_append, List.mem_filter, List.mem_cons, List.not_mem_nil, or_false] at h
     rcases h with (h | h) | h
     · exact .inr h.1
     · exact .inl h
     · exact .inr h.1
   · exact .inr h
 · cases h
section
variable {α : Type}
theorem del_none {κ : Type} [DecidableEq κ] : ∀ {m : List (κ × α)} {k : κ}, mget m k = none → mdel m k = m
 | [], _, _ => rfl
 | (j, u) :: m, k, h => by
   unfold mget at h
   split at h
   · cases h
   · rename_i e; unfold mdel; rw [if_neg e, del_none h]
theorem take_del {κ : Type} [DecidableEq κ] {f : κ × α → HProp} : ∀ {m : List (κ × α)} {k : κ} {v : α}, mget m k = some v → Take (f (k, v)) (m.map f) ((mdel m k).map f)
 | [], _, _, h => by cases h
 | (j, u) :: m, k, v, h => by
   unfold mget at h; unfold mdel
   split at h
   · rename_i e; cases h; subst e; rw [if_pos rfl]; exact .hd
   · rename_i e; rw [if_neg e]; exact .tl (take_del h)
theorem take_put {κ : Type} [DecidableEq κ] {f : κ × α → HProp} : ∀ {m : List (κ × α)} {k : κ} {v : α}, Take (f (k, v)) ((mput m k v).map f) ((mdel m k).map f)
 | [], _, _ => .hd
 | (j, u) :: m, k, v => by
   unfold mput mdel
   split
   · rename_i e; subst e; exact .hd
   · exact .tl take_put
theorem mput_len {κ : Type} [DecidableEq κ] (m : List (κ × α)) (k : κ) (v : α) : (mput m k v).length ≤ m.length + 1 := by
 induction m with
 | nil => exact Nat.le_refl _
 | cons p m ih =>
   obtain ⟨j, u⟩ := p
   unfold mput
   split
   · simp
   · simp only [List.length_cons]; omega
end
end Go.Ix
namespace Go.Proofs.YtklgiidfompdpaaGreatDoor
open Go Go.Sl Go.Gv Go.Kv Go.Po Go.Ix Go.Bst
set_option maxRecDepth 100000
def putN (W : PW) (r : Rec) : Int := if recB r then (if (mget W r.key).isSome then 6 else 0) else 2
def PutI (r : Rec) (T : List WordP) (s s' : PL × PW) : Prop :=
 if putN s.2 r = 0 then ∃ es, List.Perm es (posL T) ∧ s' = (es.foldl (putW r.key) s.1, mput s.2 r.key (sortB (mkeys (posL T)))) else s' = s
abbrev atM (p : ByteArray × SlV Int) : HProp := sl 3 1 intC p.2.a p.2.c p.2.xs
theorem Gs.atTake {w0 : World} {n : Nat} {env : Env} {H : List HProp} {X : Act → World → Prop} {M : List (ByteArray × SlV Int)} (w : ByteArray) (g : Gs w0 n env (atM (w, (mget M w).getD slZ) :: big ((mdel M w).map atM) :: H) X) : Gs w0 n env (big (M.map atM) :: H) X := by
 cases h : mget M w with
 | some s => rw [h] at g; exact Gs.bigTake (take_del h) g
 | none =>
   rw [h, del_none h] at g
   exact Gs.slNil 3 1 intC g
theorem RdW.put {S : HProp} {W : List (Key × SlV ByteArray)} (h : RdW S W) {k : Key} {a : Option Addr} {c : Nat} {ws : List ByteArray} (hl : ws.length ≤ 1000) : RdW (two S (sl 9 1 strC a c ws)) (mput W k ⟨a, ws, c⟩) := fun p hp => by
 rcases mem_put hp with rfl | hp
 · exact ⟨Srd.two2 Srd.own, hl⟩
 · exact ⟨Srd.two1 (h p hp).1, (h p hp).2⟩
theorem put_spec {h0 : Hp} (T : TabX h0) (x : Nat) (L : List (ByteArray × SlV PostV)) (W : List (Key × SlV ByteArray)) (r : Rec) (hlen : ∀ p ∈ L, p.2.xs.length ≤ 800) :
   Ct Tryz.prog 34 [ptr x, recV r] [ixA x L W, ro h0] (fun v hs => ∃ L' W', v = int (putN (plW W) r) ∧ PutI r (toksV r.t) (plL L, plW W) (plL L', plW W') ∧ hs = [ixA x L' W', ro h0]) := by
 refine Cti Tryz.func34 (by kernel_rfl) 81 Tryz.ntmps34 rfl rfl fun w0 R => ?_
 refine Gsr (La rfl (ac_box rfl rfl) ?_)
 rintro _ _ ⟨rb, rfl, rfl⟩
 refine Las rfl rfl (Lnt (Gs.seq (Gsr (Lmv rfl rfl (Lq rfl (pu_eqN Tryz.underlying72 rfl rfl) (Lnt (Gs.cond_ff rfl rfl (Gs.skip (Gn (Gs.seq (Gsr ?_)))))))))))
 refine Lr rfl (rd_lda ag_32 rfl (Rdc.cl 5 (by repeat constructor) rfl) rfl) ?_
 refine La rfl (asC (recMay_spec T.1 r)) ?_
 rintro _ _ ⟨_, ⟨rfl, rfl⟩, rfl⟩
 refine Lq rfl (pu_not rfl) (Lnt (Gs.cond rfl (fun hc1 => ?_) (fun hc1 => ?_)))
 ·
  have hno : putN (plW W) r = 2 := by unfold putN; rw [not_t hc1]; rfl
  refine Gsr (Las rfl rfl (Lnt (Gs.ret (Gr ?_))))
  exact Gs.fin1 Tryz.results34 rfl _ (⟨L, W, by rw [hno], by unfold PutI; rw [if_neg (by rw [hno]; decide)], rfl⟩) (by repeat constructor)
 have hmay := not_f hc1
 refine Gs.takes (As := [ixA x L W]) (by repeat constructor) (Gs.ix fun ml mw S hL hW => ?_)
 refine Gs.skip (Gn (Gs.seq (Gs.seq (Gs.regD mixed (by kernel_rfl) (Rmv 0 rfl (by kernel_rfl) rfl (Rq 1 rfl (by kernel_rfl) (by first | exact pu_nil rfl | exact pu_nilF rfl) ?_))))))
 refine Rq 2 rfl (by kernel_rfl) (pu_fa fa_92_1 rfl) (Rr 3 rfl (by kernel_rfl) (rd_ld na_90 rfl (Rdc.cl1 (by repeat constructor) rfl)) ?_)
 refine Rq 4 rfl (by kernel_rfl) (pu_fa fa_32_0 rfl) (Rr 5 rfl (by kernel_rfl) (rd_lda ag_28 rfl (Rdc.cl 2 (by repeat constructor) rfl) rfl) ?_)
 refine Rr 6 rfl (by kernel_rfl) (rd_look2 (k := r.key) Tryz.underlying90 kt_28 zvk_23 rfl rfl (by repeat constructor)) ?_
 refine Rmv 7 rfl (by kernel_rfl) rfl (Rq 8 rfl (by kernel_rfl) (pu_extract rfl rfl) (Rq 9 rfl (by kernel_rfl) (pu_extract rfl rfl) (Rq 10 rfl (by kernel_rfl) (pu_assign rfl) (Rq 11 rfl (by kernel_rfl) (pu_assign rfl) (Rg.end (by kernel_rfl) (Gn (Gsr (Lmv rfl rfl (Lnt (Gs.cond rfl (fun hc2 => ?_) (fun hc2 => ?_)))))))))))
 ·
  have hno : putN (plW W) r = 6 := by
    unfold putN; rw [if_pos hmay, plW, mm_get]
    cases h : mget W r.key with
    | none => rw [h] at hc2; cases hc2
    | some s => rfl
  refine Gsr (Las rfl rfl (Lnt (Gs.ret (Gr (Gs.takes (As := [cl x 92 [.map (some ml), .map (some mw)], mp strV slV ml L, mp keyV slV mw W, S]) (by repeat constructor) (Gs.ixc hL hW ?_))))))
  exact Gs.fin1 Tryz.results34 rfl _ (⟨L, W, by rw [hno], by unfold PutI; rw [if_neg (by rw [hno]; decide)], rfl⟩) (by repeat constructor)
 have hyes : putN (plW W) r = 0 := by
   unfold putN; rw [if_pos hmay, plW, mm_get]
   cases h : mget W r.key with
   | none => rfl
   | some s => rw [h] at hc2; cases hc2
 refine Gs.skip (Gn (Gsr (La rfl (ac_mkmap enck_9 encv_99) ?_)))
 rintro _ _ ⟨m, rfl, rfl⟩
 refine Las rfl rfl (Lnt (Gs.seq (Gsr (Lq rfl (pu_fa fa_32_2 rfl) (Lr rfl (rd_ld na_9 rfl (Rdc.cl1 (by repeat constructor) rfl)) ?_)))))
 refine La rfl (asC (of_spec T r.t)) ?_
 rintro _ _ ⟨_, ⟨ta, tc, rfl, rfl⟩, rfl⟩
 refine Lq rfl (pu_len Tryz.underlying83 rfl) (Lmv rfl rfl (Lnil ?_))
 have htl : (toksV r.t).length ≤ 121 := by rw [toksV, toks_length]; exact words_len _
 refine Gs.slAddr (xs := toksV r.t) (SlH.own (E := 98) (enc := wordC) (a := ta) (c := tc) (by repeat constructor)) fun tb tof hta => ?_
 refine Gs.bigNil (Gn (Gs.block (Gs.loop1 (fun s : Nat × List (ByteArray × SlV Int) => s.1 ≤ (toksV r.t).length ∧ mm (fun s => s.xs) s.2 = posL ((toksV r.t).take s.1) ∧ s.2.length ≤ s.1 ∧ ∀ p ∈ s.2, p.2.xs.length ≤ s.1) (fun s => [(0, ptr x), (3, ptr rb), (7, .map (some m)), (31, .slice ta (toksV r.t).length tc), (32, int (toksV r.t).length), (33, int s.1)]) (fun s => [cl rb 32 (recC r), cl x 92 [.map (some ml), .map (some mw)], mp strV slV ml L, mp keyV slV mw W, S, ro h0, sl 98 2 wordC ta tc (toksV r.t), mp strV slV m s.2, big (s.2.map atM)] ++ R) (fun s => (toksV r.t).length - s.1) (0, []) (⟨Nat.zero_le _, rfl, Nat.zero_le _, fun _ h => by cases h⟩) (by repeat constructor) (by repeat constructor) (fun s hs => ?_))))
 obtain ⟨i, M⟩ := s
 obtain ⟨hi, hM, hMl, hMb⟩ := hs
 dsimp only at hi hM hMl hMb ⊢
 refine Gsr (Lq rfl (pu_lt rfl rfl) (Lnt (Gs.seq (Gs.cond rfl (fun hc3 => ?_) (fun hc3 => ?_)))))
 ·
  have hlt : i < (toksV r.t).length := by have := of_decide_eq_true hc3; omega
  obtain ⟨p, hp⟩ : ∃ z, (toksV r.t)[i]? = some z := ⟨(toksV r.t)[i], by simp [hlt]⟩
  obtain rfl := hta (by rintro h; rw [h] at hlt; simp at hlt)
  have hnx := fold_take posStep [] hp
  rw [show ((toksV r.t).take i).foldl posStep [] = mm (fun s => s.xs) M from hM.symm] at hnx
  have hgl : ((mget M p.1).getD (slZ : SlV Int)).xs.length ≤ i := by
    cases h : mget M p.1 with
    | none => exact Nat.zero_le _
    | some s => exact hMb (p.1, s) (mget_mem h)
  refine Gs.skip (Gn (Gs.seq (Gs.block (Gsr (Lq rfl (pu_ia se_83 rfl rfl (by omega) (by omega)) (Lr rfl (rd_lda ag_98 rfl (Rdc.el0 (SlH.own (xs := toksV r.t) (E := 98) (enc := wordC) (sz := 2) (by repeat constructor)) hp rfl rfl) rfl) ?_))))))
  refine La rfl (ac_alloc zv_98 rfl) ?_
  rintro _ _ ⟨wb, rfl, rfl⟩
  refine Lac0 rfl trivial (ac_st sz_98 rfl rfl (by repeat constructor) rfl rfl rfl rfl) ?_
  rintro _ _ rfl
  refine Lnt (Gs.takes (As := [big (M.map atM)]) (by repeat constructor) (Gs.atTake p.1 ?_))
  refine Gs.regD mixed (by kernel_rfl) (Rmv 0 rfl (by kernel_rfl) rfl (Rq 1 rfl (by kernel_rfl) (pu_fa fa_98_0 rfl) (Rr 2 rfl (by kernel_rfl) (rd_ld na_9 rfl (Rdc.cl1 (by repeat constructor) rfl)) ?_)))
  refine Rmv 3 rfl (by kernel_rfl) rfl (Rq 4 rfl (by kernel_rfl) (pu_fa fa_98_0 rfl) (Rr 5 rfl (by kernel_rfl) (rd_ld na_9 rfl (Rdc.cl1 (by repeat constructor) rfl)) ?_))
  refine Rr 6 rfl (by kernel_rfl) (rd_look1 Tryz.underlying96 kt_9 zvk_99 rfl rfl (by repeat constructor)) ?_
  refine Rq 7 rfl (by kernel_rfl) (pu_fa fa_98_1 rfl) (Rr 8 rfl (by kernel_rfl) (rd_ld na_3 rfl (Rdc.cl1 (by repeat constructor) rfl)) ?_)
  refine Rg.one (by kernel_rfl) (Stp.acK 9 rfl rfl (by kernel_rfl) trivial (ac_lit encC_3 ([p.2]) et_99 ek_3 rfl (by repeat constructor) rfl rfl (by decide)) (by rintro _ _ ⟨a46, rfl, rfl⟩ w s; first | exact s.drop | exact s | exact Ent.sat (by repeat constructor) s) ?_)
  rintro _ _ ⟨a46, rfl, rfl⟩
  refine Rg.one (by kernel_rfl) (Stp.acR 10 [2] rfl rfl (by kernel_rfl) trivial (ac_append (xs := ((mget M p.1).getD (slZ : SlV Int)).xs) (ys := [p.2]) et_99 ek_3 rfl rfl (by repeat constructor) (SrcH.sl Tryz.underlying99 ek_3 (SlH.own (by repeat constructor))) (by first | omega | (simp; omega)) (by first | omega | (simp; omega))) (by rintro _ _ ⟨a47, c47, rfl, rfl⟩; exact (Reads.cons rfl rfl rfl trivial rfl (rd_ld na_9 rfl (Rdc.cl1 (by repeat constructor) rfl)) Reads.nil)) ?_)
  rintro _ _ ⟨a47, c47, rfl, rfl⟩
  refine Rg.one (by kernel_rfl) (Stp.ac0 11 rfl rfl (by kernel_rfl) trivial (ac_put (encv := slV) (k := p.1) (v := (⟨a47, ((mget M p.1).getD (slZ : SlV Int)).xs ++ [p.2], c47⟩ : SlV Int)) Tryz.underlying96 kt_9 rfl rfl rfl (by repeat constructor))  ?_)
  rintro _ _ rfl
  refine Rg.end (by kernel_rfl) (Gs.takes (As := [atM (p.1, (⟨a47, ((mget M p.1).getD (slZ : SlV Int)).xs ++ [p.2], c47⟩ : SlV Int)), big ((mdel M p.1).map atM)]) (by repeat constructor) (Gs.bigBack take_put ?_))
  have hM2 : mm (fun s => s.xs) (mput M p.1 (⟨a47, ((mget M p.1).getD (slZ : SlV Int)).xs ++ [p.2], c47⟩ : SlV Int)) = posL ((toksV r.t).take (i + 1)) := by
    rw [posL, hnx, mm_put, posStep, mm_get]
    congr 2
    cases mget M p.1 <;> rfl
  have hl2 := mput_len M p.1 (⟨a47, ((mget M p.1).getD (slZ : SlV Int)).xs ++ [p.2], c47⟩ : SlV Int)
  have hb2 : ∀ q ∈ mput M p.1 (⟨a47, ((mget M p.1).getD (slZ : SlV Int)).xs ++ [p.2], c47⟩ : SlV Int), q.2.xs.length ≤ i + 1 := fun q hq => by
    rcases mem_put hq with rfl | hq
    · simp only [List.length_append, List.length_cons, List.length_nil]; omega
    · have := hMb q hq; omega
  refine Gs.blk_n (Gn (Gs.reg (Lq rfl (by first | exact pu_addI rfl rfl rfl (by omega) (by omega) | exact pu_add rfl rfl) ?_)))
  refine Lmv rfl rfl (Lnt ?_)
  exact Ag (i + 1, mput M p.1 (⟨a47, ((mget M p.1).getD (slZ : SlV Int)).xs ++ [p.2], c47⟩ : SlV Int)) ⟨hlt, hM2, Nat.le_trans hl2 (Nat.succ_le_succ hMl), hb2⟩ (by show (toksV r.t).length - (i + 1) < (toksV r.t).length - i; omega)
 have hge : i = (toksV r.t).length := by have := of_decide_eq_false hc3; omega
 rw [hge, List.take_length] at hM
 refine Gs.exit (Gx (Gx (Gs.blk_hit (Gn (Gs.seq (Gs.regD mixed (by kernel_rfl) (Rmv 0 rfl (by kernel_rfl) rfl (Rq 1 rfl (by kernel_rfl) (by first | exact pu_nil rfl | exact pu_nilF rfl) ?_))))))))
 refine Rq 2 rfl (by kernel_rfl) (pu_fa fa_92_1 rfl) (Rr 3 rfl (by kernel_rfl) (rd_ld na_90 rfl (Rdc.cl1 (by repeat constructor) rfl)) ?_)
 refine Rq 4 rfl (by kernel_rfl) (pu_fa fa_32_0 rfl) (Rr 5 rfl (by kernel_rfl) (rd_lda ag_28 rfl (Rdc.cl 2 (by repeat constructor) rfl) rfl) ?_)
 refine Rmv 6 rfl (by kernel_rfl) rfl (Rg.one (by kernel_rfl) (Stp.acR 7 [3, 5] rfl rfl (by kernel_rfl) trivial (asC (t_keysFn_spec m)) (by rintro _ _ ⟨_, ⟨fb, rfl, rfl⟩, rfl⟩; exact (Reads.cons rfl rfl rfl trivial rfl (rd_ld na_90 rfl (Rdc.cl1 (by repeat constructor) rfl)) (Reads.cons rfl rfl rfl trivial rfl (rd_lda ag_28 rfl (Rdc.cl 2 (by repeat constructor) rfl) rfl) Reads.nil))) ?_))
 rintro _ _ ⟨_, ⟨fb, rfl, rfl⟩, rfl⟩
 refine Rg.one (by kernel_rfl) (Stp.acR 8 [3, 5] rfl rfl (by kernel_rfl) trivial (asC (sortedT_spec fb m M (by omega))) (by rintro _ _ ⟨_, ⟨sa, sc, rfl, rfl⟩, rfl⟩; exact (Reads.cons rfl rfl rfl trivial rfl (rd_ld na_90 rfl (Rdc.cl1 (by repeat constructor) rfl)) (Reads.cons rfl rfl rfl trivial rfl (rd_lda ag_28 rfl (Rdc.cl 2 (by repeat constructor) rfl) rfl) Reads.nil))) ?_)
 rintro _ _ ⟨_, ⟨sa, sc, rfl, rfl⟩, rfl⟩
 refine Rg.one (by kernel_rfl) (Stp.ac0 9 rfl rfl (by kernel_rfl) trivial (ac_put (encv := slV) (k := r.key) (v := (⟨sa, sortB (mkeys M), sc⟩ : SlV ByteArray)) Tryz.underlying90 kt_28 rfl rfl rfl (by repeat constructor))  ?_)
 rintro _ _ rfl
 refine Rg.end (by kernel_rfl) ?_
 have hkM : mkeys M = mkeys (posL (toksV r.t)) := by rw [← hM]; simp [mm, mkeys]
 have hsl : (sortB (mkeys M)).length ≤ 1000 := by rw [sortB_length]; simp [mkeys]; omega
 have hW2 := hW.put (k := r.key) (a := sa) (c := sc) hsl
 have hpW : plW (mput W r.key ⟨sa, sortB (mkeys M), sc⟩) = mput (plW W) r.key (sortB (mkeys (posL (toksV r.t)))) := by rw [plW, mm_put, hkM]; rfl
 refine Gs.takes (As := [S, sl 9 1 strC sa sc (sortB (mkeys M))]) (by repeat constructor) (Gs.toTwo ?_)
 refine Gn (Gs.seq (Gsr (Lmv rfl rfl (La rfl (ac_range (enck := strV) (encv := slV) Tryz.underlying96 rfl (by repeat constructor)) ?_))))
 rintro _ _ ⟨ri, rfl, rfl⟩
 refine Lnt (Gs.block (Gs.loop1 (fun s : List (ByteArray × SlV Int) × List (ByteArray × SlV Int) × Option (ByteArray × SlV Int) × List (ByteArray × SlV PostV) × HProp => List.Perm (s.1 ++ s.2.1) M ∧ plL s.2.2.2.1 = (mm (fun s : SlV Int => s.xs) s.1).foldl (putW r.key) (plL L) ∧ RdL s.2.2.2.2 s.2.2.2.1 ∧ RdW s.2.2.2.2 (mput W r.key ⟨sa, sortB (mkeys M), sc⟩) ∧ ∀ p ∈ s.2.2.2.1, p.2.xs.length ≤ 800 + s.1.length) (fun s => [(0, ptr x), (3, ptr rb), (59, ptr ri)]) (fun s => [itr strV slV ri m M s.2.1 s.2.2.1, cl x 92 [.map (some ml), .map (some mw)], mp strV slV ml s.2.2.2.1, mp keyV slV mw (mput W r.key ⟨sa, sortB (mkeys M), sc⟩), s.2.2.2.2, big (M.map atM), cl rb 32 (recC r), ro h0] ++ R) (fun s => s.2.1.length) ([], M, none, L, two S (sl 9 1 strC sa sc (sortB (mkeys M)))) (⟨List.Perm.refl _, rfl, hL.l, hW2, fun p hp => hlen p hp⟩) (by repeat constructor) (by repeat constructor) (fun s hs => ?_)))
 obtain ⟨pre, left, last, L1, S1⟩ := s
 obtain ⟨hs, hst, hL1, hW1, hb1⟩ := hs
 dsimp only at hs hst hL1 hW1 hb1 ⊢
 refine Gsr (La rfl (ac_next rfl (by repeat constructor)) ?_)
 rintro _ _ (⟨hl, rfl, rfl⟩ | ⟨j, e, he, rfl, rfl⟩)
 ·
  have hl' : left = [] := hl
  subst hl'
  rw [List.append_nil] at hs
  refine Lq rfl (pu_extract rfl rfl) (Lnt (Gs.seq (Gs.cond_f rfl (Gs.exit (Gx (Gx (Gs.blk_hit (Gn (Gsr (Las rfl rfl (Lnt ?_)))))))))))
  refine Gs.ret (Gs.takes (As := [cl x 92 [.map (some ml), .map (some mw)], mp strV slV ml L1, mp keyV slV mw (mput W r.key ⟨sa, sortB (mkeys M), sc⟩), S1]) (by repeat constructor) (Gs.ixc hL1 hW1 ?_))
  exact Gs.fin1 Tryz.results34 rfl _ (⟨L1, mput W r.key ⟨sa, sortB (mkeys M), sc⟩, by rw [hyes], by unfold PutI; rw [if_pos hyes, hst, hpW]; exact ⟨mm (fun s : SlV Int => s.xs) pre, by rw [← hM]; exact hs.map _, rfl⟩, rfl⟩) (by repeat constructor)
 have hjl := (List.getElem?_eq_some_iff.1 he).1
 have hperm : List.Perm ((pre ++ [e]) ++ left.eraseIdx j) M := by
   refine List.Perm.trans ?_ hs
   rw [List.append_assoc]
   exact List.Perm.append_left pre (l_erase_perm he)
 have hlt : (left.eraseIdx j).length < left.length := by
   rw [List.length_eraseIdx_of_lt hjl]; omega
 have hpl : pre.length + left.length = M.length := by have := hs.length_eq; simpa using this
 have heM : e ∈ M := hs.subset (List.mem_append_right _ (List.mem_of_getElem? he))
 have hU : Srd (big (M.map atM)) 1 intC e.2.a e.2.xs := Srd.bigs Srd.own (List.mem_map.2 ⟨e, heM, rfl⟩)
 have heb := hMb e heM
 have hrd := lisT_rd hL1 e.1
 have hll : (lisT L1 e.1).xs.length ≤ 800 + pre.length := by
   unfold lisT
   cases h : mget L1 e.1 with
   | none => exact Nat.zero_le _
   | some s => exact hb1 (e.1, s) (mget_mem h)
 refine Lq rfl (pu_extract rfl rfl) (Lnt (Gs.seq (Gs.cond_t rfl (Gs.skip (Gn (Gs.block (Gsr (Lr rfl (ac_entry rfl (by repeat constructor)) ?_))))))))
 refine Lq rfl (pu_extract rfl rfl) (Lq rfl (pu_extract rfl rfl) (Las rfl rfl (Las rfl rfl (Lnt (Gs.regD mixed (by kernel_rfl) (Rmv 0 rfl (by kernel_rfl) rfl (Rq 1 rfl (by kernel_rfl) (by first | exact pu_nil rfl | exact pu_nilF rfl) ?_)))))))
 refine Rq 2 rfl (by kernel_rfl) (pu_fa fa_92_0 rfl) (Rr 3 rfl (by kernel_rfl) (rd_ld na_89 rfl (Rdc.cl1 (by repeat constructor) rfl)) ?_)
 refine Rmv 4 rfl (by kernel_rfl) rfl (Rmv 5 rfl (by kernel_rfl) rfl (Rq 6 rfl (by kernel_rfl) (by first | exact pu_nil rfl | exact pu_nilF rfl) ?_))
 refine Rq 7 rfl (by kernel_rfl) (pu_fa fa_92_0 rfl) (Rr 8 rfl (by kernel_rfl) (rd_ld na_89 rfl (Rdc.cl1 (by repeat constructor) rfl)) ?_)
 refine Rmv 9 rfl (by kernel_rfl) rfl (Rr 10 rfl (by kernel_rfl) (rd_look1 Tryz.underlying89 kt_9 zvk_94 rfl rfl (by repeat constructor)) ?_)
 refine Rq 11 rfl (by kernel_rfl) (pu_fa fa_32_0 rfl) (Rr 12 rfl (by kernel_rfl) (rd_lda ag_28 rfl (Rdc.cl 2 (by repeat constructor) rfl) rfl) ?_)
 refine Rmv 13 rfl (by kernel_rfl) rfl (Rq 14 rfl (by kernel_rfl) (pu_build bd_106 (by repeat constructor) rfl) ?_)
 refine Rg.one (by kernel_rfl) (Stp.acR 15 [3] rfl rfl (by kernel_rfl) trivial (asC (Ct.two (pput_spec (S := two S1 (big (M.map atM))) (a := (lisT L1 e.1).a) (c := (lisT L1 e.1).c) (ps := (lisT L1 e.1).xs) (p := ⟨r.key, e.2⟩) hrd.1.l hrd.2 (Srd.two2 hU) (by dsimp only; omega)) (by rintro _ _ ⟨_, _, _, _, _, rfl⟩; exact ⟨_, rfl⟩))) (by rintro _ _ ⟨_, ⟨_, ⟨da, dc, qs, rfl, hq, ⟨⟩⟩, rfl⟩, rfl⟩; exact (Reads.cons rfl rfl rfl trivial rfl (rd_ld na_89 rfl (Rdc.cl1 (by repeat constructor) rfl)) Reads.nil)) ?_)
 rintro _ _ ⟨_, ⟨_, ⟨da, dc, qs, rfl, hq, ⟨⟩⟩, rfl⟩, rfl⟩
 refine Rg.one (by kernel_rfl) (Stp.ac0 16 rfl rfl (by kernel_rfl) trivial (ac_put (encv := slV) (k := e.1) (v := (⟨da, qs, dc⟩ : SlV PostV)) Tryz.underlying89 kt_9 rfl rfl rfl (by repeat constructor))  ?_)
 rintro _ _ rfl
 refine Rg.end (by kernel_rfl) ?_
 have hqe : plain1 qs = putP ((mget (plL L1) e.1).getD []) (r.key, e.2.xs) := by rw [hq, plL_get]; rfl
 have hql : qs.length ≤ 800 + (pre.length + 1) := by
   have h1 := congrArg List.length hqe
   have h2 := putP_le ((mget (plL L1) e.1).getD []) (r.key, e.2.xs)
   rw [plL_get] at h1 h2
   simp only [List.length_map] at h1 h2
   omega
 have hqb : ∀ q ∈ qs, q.t.xs.length ≤ 1000 := fun q hqm => by
   have : q.p ∈ plain1 qs := List.mem_map.2 ⟨q, hqm, rfl⟩
   rw [hqe] at this
   rcases putP_sub this with h | h
   · have h2 : q.t.xs = e.2.xs := congrArg Prod.snd h
     rw [h2]; omega
   · rw [plL_get] at h
     obtain ⟨y, hy, hye⟩ := List.mem_map.1 h
     have h2 : y.t.xs = q.t.xs := congrArg Prod.snd hye
     rw [← h2]; exact hL1.at e.1 y hy
 have hL3 := hL1.put (w := e.1) (a := da) (c := dc) hqb (by omega)
 have hpl3 : plL (mput L1 e.1 ⟨da, qs, dc⟩) = (mm (fun s : SlV Int => s.xs) (pre ++ [e])).foldl (putW r.key) (plL L) := by
   rw [mm, List.map_append, List.foldl_append, ← mm, ← hst, plL, mm_put, ← plL]
   show mput (plL L1) e.1 (plain1 qs) = _
   rw [hqe]; rfl
 have hb3 : ∀ p ∈ mput L1 e.1 ⟨da, qs, dc⟩, p.2.xs.length ≤ 800 + (pre ++ [e]).length := fun p hp => by
   rw [List.length_append]
   rcases mem_put hp with rfl | hp
   · exact hql
   · have := hb1 p hp; simp; omega
 refine Gs.blk_n (Gn ?_)
 exact Gs.takes (As := [S1, plO da dc qs]) (by repeat constructor) (Gs.toTwo (Ag (pre ++ [e], left.eraseIdx j, some e, mput L1 e.1 ⟨da, qs, dc⟩, two S1 (plO da dc qs)) ⟨hperm, hpl3, hL3, hW1.l, hb3⟩ hlt))
end Go.Proofs.YtklgiidfompdpaaGreatDoor
namespace Go.Ix
open Go Go.Sl Go.Gv Go.Kv Go.Po Go.Bst
def preB (s w : ByteArray) : Bool := Lib.hasPrefix s.data.toList w.data.toList
abbrev PM : Type := List (Key × List Int)
def catP (M : PM) (p : PostP) : PM := mput M p.1 ((mget M p.1).getD [] ++ p.2)
def preStep (w : ByteArray) (P : PL) (M : PM) (s : ByteArray) : PM := if preB s w then ((mget P s).getD []).foldl catP M else M
def prefM (w : ByteArray) (P : PL) : PM := (sortB (mkeys P)).foldl (preStep w P) []
theorem take_erase {α : Type} {f : α → HProp} : ∀ {l : List α} {j : Nat} {e : α}, l[j]? = some e → Take (f e) (l.map f) ((l.eraseIdx j).map f)
 | [], _, _, h => by cases h
 | x :: l, 0, e, h => by cases h; exact .hd
 | x :: l, j + 1, e, h => .tl (take_erase (by simpa using h))
end Go.Ix
namespace Go.Sl
open Go
variable {w0 w : World} {M : List HProp}
theorem Sat.bigPerm {L L' : List HProp} (p : List.Perm L L') : ∀ {M : List HProp}, Sat w0 w (Sl.big L :: M) → Sat w0 w (Sl.big L' :: M) := by
 induction p with
 | nil => exact fun s => s
 | cons x p ih => exact fun s => Sat.bigBack .hd ((ih ((Sat.bigTake .hd s).take (.tl .hd))).take (.tl .hd))
 | swap x y l => exact fun s => Sat.bigBack (.tl .hd) (Sat.bigTake .hd s)
 | trans p q ih1 ih2 => exact fun s => ih2 (ih1 s)
theorem Gs.bigPerm {n : Nat} {env : Env} {X : Act → World → Prop} {L L' : List HProp} (p : List.Perm L L') (g : Gs w0 n env (Sl.big L' :: M) X) : Gs w0 n env (Sl.big L :: M) X := fun a w e s => g a w e (s.bigPerm p)
end Go.Sl
namespace Go.Proofs.YtklgiidfompdpaaGreatDoor
open Go Go.Sl Go.Gv Go.Kv Go.Po Go.Ix Go.Bst
set_option maxRecDepth 100000
abbrev atK {κ : Type} (p : κ × SlV Int) : HProp := sl 3 1 intC p.2.a p.2.c p.2.xs
theorem Gs.atTakeK {κ : Type} [DecidableEq κ] {w0 : World} {n : Nat} {env : Env} {H : List HProp} {X : Act → World → Prop} {M : List (κ × SlV Int)} (w : κ) (g : Gs w0 n env (atK (w, (mget M w).getD slZ) :: big ((mdel M w).map atK) :: H) X) : Gs w0 n env (big (M.map atK) :: H) X := by
 cases h : mget M w with
 | some s => rw [h] at g; exact Gs.bigTake (take_del h) g
 | none =>
   rw [h, del_none h] at g
   exact Gs.slNil 3 1 intC g
theorem hasPrefix_spec (s p : ByteArray) : Ct Tryz.prog 125 [.string s, .string p] [] (fun v hs => v = .bool (preB s p) ∧ hs = []) := by
 refine ⟨enters_of Tryz.func125 (by kernel_rfl) rfl _, fun w0 w R st => ?_⟩
 refine (Any.strings_HasPrefix Tryz.laysHP s p w).mono ?_
 rintro e w' ⟨rfl, rfl⟩
 exact ⟨_, _, rfl, ⟨rfl, rfl⟩, st⟩
abbrev srtP (e : Key × SlV Int) : PostV := ⟨e.1, ⟨e.2.a, sortI e.2.xs, e.2.c⟩⟩
theorem prefix_spec (x : Nat) (L : List (ByteArray × SlV PostV)) (W : List (Key × SlV ByteArray)) (q : ByteArray) (hl : L.length ≤ 100000) :
   Ct Tryz.prog 72 [ptr x, .string q] [ixA x L W] (fun v hs => ∃ a' c' qs, v = .slice a' qs.length c' ∧ List.Perm (plain1 qs) (mm sortI (prefM q (plL L))) ∧ (qs.Pairwise fun p q => before q.k p.k = false) ∧ hs = [ixA x L W, plO a' c' qs]) := by
 refine Cti Tryz.func72 (by kernel_rfl) 65 Tryz.ntmps72 rfl rfl fun w0 R => ?_
 refine Gsr (Las rfl rfl (Lnt (Gsr (La rfl (ac_mkmap enck_28 encv_99) ?_))))
 rintro _ _ ⟨m, rfl, rfl⟩
 refine Las rfl rfl (Lnt (Gs.seq (Gsr (Lmv rfl rfl (La rfl (asC (words_spec x L W hl)) ?_)))))
 rintro _ _ ⟨_, ⟨wa, wc, rfl, rfl⟩, rfl⟩
 refine Lq rfl (pu_len Tryz.underlying23 rfl) (Lmv rfl rfl (Lnil ?_))
 have hkl : mkeys (plL L) = mkeys L := by simp [plL, mm, mkeys]
 obtain ⟨ws, hws⟩ : ∃ ws, ws = sortB (mkeys L) := ⟨_, rfl⟩
 rw [← hws]
 have hwl : ws.length ≤ 100000 := by rw [hws, sortB_length]; simp [mkeys]; exact hl
 refine Gs.slAddr (xs := ws) (SlH.own (E := 9) (enc := strC) (a := wa) (c := wc) (by repeat constructor)) fun wb wo hwa => ?_
 refine Gs.bigNil (Gs.takes (As := [ixA x L W]) (by repeat constructor) (Gs.ix fun ml mw S hL hW => ?_))
 refine Gn (Gs.block (Gs.loop1 (fun s : Nat × List (Key × SlV Int) => s.1 ≤ ws.length ∧ mm (fun s => s.xs) s.2 = (ws.take s.1).foldl (preStep q (plL L)) [] ∧ s.2.length ≤ 1000 * s.1 ∧ ∀ p ∈ s.2, p.2.xs.length ≤ 1000000 * s.1) (fun s => [(0, ptr x), (1, .string q), (5, .map (some m)), (15, .slice wa ws.length wc), (16, int ws.length), (17, int s.1)]) (fun s => [cl x 92 [.map (some ml), .map (some mw)], mp strV slV ml L, mp keyV slV mw W, S, sl 9 1 strC wa wc ws, mp keyV slV m s.2, big (s.2.map atK)] ++ R) (fun s => ws.length - s.1) (0, []) (⟨Nat.zero_le _, rfl, Nat.zero_le _, fun _ h => by cases h⟩) (by repeat constructor) (by repeat constructor) (fun s hs => ?_)))
 obtain ⟨i, M⟩ := s
 obtain ⟨hi, hM, hMl, hMb⟩ := hs
 dsimp only at hi hM hMl hMb ⊢
 refine Gsr (Lq rfl (pu_lt rfl rfl) (Lnt (Gs.seq (Gs.cond rfl (fun hc0 => ?_) (fun hc0 => ?_)))))
 ·
  have hlt : i < ws.length := by have := of_decide_eq_true hc0; omega
  obtain ⟨sw, hsw⟩ : ∃ z, ws[i]? = some z := ⟨ws[i], by simp [hlt]⟩
  obtain rfl := hwa (by rintro h; rw [h] at hlt; simp at hlt)
  have hnx := fold_take (preStep q (plL L)) [] hsw
  rw [← hM] at hnx
  refine Gs.skip (Gn (Gs.seq (Gs.block (Gsr (Lq rfl (pu_ia se_23 rfl rfl (by omega) (by omega)) (Lr rfl (rd_ld na_9 rfl (Rdc.el0 (SlH.own (xs := ws) (E := 9) (enc := strC) (sz := 1) (by repeat constructor)) hsw rfl rfl)) ?_))))))
  refine Las rfl rfl (Lnt (Gs.seq (Gsr (Lmv rfl rfl (Lmv rfl rfl (La rfl (asC (hasPrefix_spec sw q)) ?_))))))
  rintro _ _ ⟨_, ⟨rfl, rfl⟩, rfl⟩
  refine Lq rfl (pu_not rfl) (Lnt (Gs.cond rfl (fun hc1 => ?_) (fun hc1 => ?_)))
  ·
   have hsame : mm (fun s : SlV Int => s.xs) M = (ws.take (i + 1)).foldl (preStep q (plL L)) [] := by
     rw [hnx, preStep, if_neg (by rw [not_t hc1]; decide)]
   have hl2 : M.length ≤ 1000 * (i + 1) := by omega
   have hb2 : ∀ p ∈ M, p.2.xs.length ≤ 1000000 * (i + 1) := fun p hp => by have := hMb p hp; omega
   refine Gs.exit (Gx (Gs.blk_hit (Gn (Gs.reg (Lq rfl (by first | exact pu_addI rfl rfl rfl (by omega) (by omega) | exact pu_add rfl rfl) ?_)))))
   refine Lmv rfl rfl (Lnt ?_)
   first | exact Ag (i + 1, M) ⟨hlt, hsame, hl2, hb2⟩ (by show ws.length - (i + 1) < ws.length - i; omega) | exact Ag (i + 1, M1) ⟨hlt, hsame, hl2, hb2⟩ (by show ws.length - (i + 1) < ws.length - i; omega)
  have hpre := not_f hc1
  obtain ⟨la, lxs, lc, hlT⟩ : ∃ a xs c, lisT L sw = ⟨a, xs, c⟩ := ⟨_, _, _, rfl⟩
  have hrd := lisT_rd hL sw
  rw [preStep, if_pos hpre, plL_get] at hnx
  rw [hlT] at hrd hnx
  dsimp only at hrd hnx
  have hrl := hrd.2
  refine Gs.slAddr (xs := lxs) (hrd.1.1.h (by repeat constructor)) fun pb po hpa => ?_
  refine Gs.skip (Gn (Gsr (Lmv rfl rfl (Lq rfl (by first | exact pu_nil rfl | exact pu_nilF rfl) ?_))))
  refine Lq rfl (pu_fa fa_92_0 rfl) (Lr rfl (rd_ld na_89 rfl (Rdc.cl1 (by repeat constructor) rfl)) ?_)
  refine Lmv rfl rfl (Lr rfl (rd_look1 Tryz.underlying89 kt_9 zvk_94 rfl rfl (by repeat constructor)) ?_)
  rw [show (mget L sw).getD (slZ : SlV PostV) = ⟨la, lxs, lc⟩ from hlT]
  refine Lq rfl (pu_len Tryz.underlying94 rfl) (Lmv rfl rfl (Lnt (Gs.block (Gs.loop1 (fun s : Nat × List (Key × SlV Int) => s.1 ≤ lxs.length ∧ mm (fun s => s.xs) s.2 = ((plain1 lxs).take s.1).foldl catP (mm (fun s : SlV Int => s.xs) M) ∧ s.2.length ≤ 1000 * i + s.1 ∧ ∀ p ∈ s.2, p.2.xs.length ≤ 1000000 * i + 1000 * s.1) (fun s => [(0, ptr x), (1, .string q), (5, .map (some m)), (15, .slice (some ⟨wb, wo, none⟩) ws.length wc), (16, int ws.length), (17, int i), (30, .slice la lxs.length lc), (31, int lxs.length), (32, int s.1)]) (fun s => [cl x 92 [.map (some ml), .map (some mw)], mp strV slV ml L, mp keyV slV mw W, S, sl 9 1 strC (some ⟨wb, wo, none⟩) wc ws, mp keyV slV m s.2, big (s.2.map atK)] ++ R) (fun s => lxs.length - s.1) (0, M) (⟨Nat.zero_le _, rfl, hMl, hMb⟩) (by repeat constructor) (by repeat constructor) (fun s hs1 => ?_)))))
  obtain ⟨j, M1⟩ := s
  obtain ⟨hj, hM1, hMl1, hMb1⟩ := hs1
  dsimp only at hj hM1 hMl1 hMb1 ⊢
  refine Gsr (Lq rfl (pu_lt rfl rfl) (Lnt (Gs.seq (Gs.cond rfl (fun hc2 => ?_) (fun hc2 => ?_)))))
  ·
   have hlt2 : j < lxs.length := by have := of_decide_eq_true hc2; omega
   obtain ⟨p, hp⟩ : ∃ z, lxs[j]? = some z := ⟨lxs[j], by simp [hlt2]⟩
   obtain rfl := hpa (by rintro h; rw [h] at hlt2; simp at hlt2)
   have hnx2 := fold_take catP (mm (fun s : SlV Int => s.xs) M) (show (plain1 lxs)[j]? = some p.p by rw [List.getElem?_map, hp]; rfl)
   rw [← hM1] at hnx2
   obtain ⟨hpt, hptl⟩ := hrd.1.2 p (List.mem_of_getElem? hp)
   have hgl : ((mget M1 p.k).getD (slZ : SlV Int)).xs.length ≤ 1000000 * i + 1000 * j := by
     cases h : mget M1 p.k with
     | none => exact Nat.zero_le _
     | some s => exact hMb1 (p.k, s) (mget_mem h)
   refine Gs.skip (Gn (Gs.seq (Gs.block (Gsr (Lq rfl (pu_ia se_94 rfl rfl (by omega) (by omega)) (Lr rfl (rd_lda ag_106 rfl (Rdc.el0 (hrd.1.1.h (by repeat constructor)) hp rfl rfl) rfl) ?_))))))
   refine La rfl (ac_alloc zv_106 rfl) ?_
   rintro _ _ ⟨cb, rfl, rfl⟩
   refine Lac0 rfl trivial (ac_st sz_106 rfl rfl (by repeat constructor) rfl rfl rfl rfl) ?_
   rintro _ _ rfl
   refine Lnt (Gs.takes (As := [big (M1.map atK)]) (by repeat constructor) (Gs.atTakeK p.k ?_))
   refine Gs.reg (Lmv rfl rfl (Lq rfl (pu_fa fa_106_0 rfl) (Lr rfl (rd_lda ag_28 rfl (Rdc.cl 2 (by repeat constructor) rfl) rfl) ?_)))
   refine Lq rfl (pu_fa fa_106_1 rfl) (Lr rfl (rd_ld na_99 rfl (Rdc.cl1 (by repeat constructor) rfl)) ?_)
   refine La rfl (ac_mapEntry (enck := keyV) (encv := slV) (m := M1) (k := p.k) (z := (slZ : SlV Int)) Tryz.underlying158 kt_28 zvk_99 rfl rfl (by repeat constructor)) ?_
   rintro _ _ ⟨st, rfl, rfl⟩
   refine Lq rfl (pu_extract rfl rfl) (La rfl (ac_append (xs := ((mget M1 p.k).getD (slZ : SlV Int)).xs) et_99 ek_3 rfl rfl (by repeat constructor) (SrcH.sl Tryz.underlying99 ek_3 (hpt.h (by repeat constructor))) (by omega) (by omega)) ?_)
   rintro _ _ ⟨aa, ac', rfl, rfl⟩
   refine Lq rfl (pu_extract rfl rfl) (Lac0 rfl trivial (ac_entryStore (enck := keyV) (encv := slV) (m := M1) (k := p.k) (z := (slZ : SlV Int)) (v := (⟨aa, ((mget M1 p.k).getD (slZ : SlV Int)).xs ++ p.t.xs, ac'⟩ : SlV Int)) rfl rfl rfl (by repeat constructor)) ?_)
   rintro _ _ rfl
   refine Lnil (Gs.takes (As := [atK (p.k, (⟨aa, ((mget M1 p.k).getD (slZ : SlV Int)).xs ++ p.t.xs, ac'⟩ : SlV Int)), big ((mdel M1 p.k).map atK)]) (by repeat constructor) (Gs.bigBack take_put ?_))
   have hM3 : mm (fun s => s.xs) (mput M1 p.k (⟨aa, ((mget M1 p.k).getD (slZ : SlV Int)).xs ++ p.t.xs, ac'⟩ : SlV Int)) = ((plain1 lxs).take (j + 1)).foldl catP (mm (fun s : SlV Int => s.xs) M) := by
     rw [hnx2, mm_put, catP, mm_get]
     congr 1
     show _ = ((mget M1 p.k).map fun s => s.xs).getD [] ++ p.t.xs
     cases mget M1 p.k <;> rfl
   have hl3 := mput_len M1 p.k (⟨aa, ((mget M1 p.k).getD (slZ : SlV Int)).xs ++ p.t.xs, ac'⟩ : SlV Int)
   have hb3 : ∀ q ∈ mput M1 p.k (⟨aa, ((mget M1 p.k).getD (slZ : SlV Int)).xs ++ p.t.xs, ac'⟩ : SlV Int), q.2.xs.length ≤ 1000000 * i + 1000 * (j + 1) := fun q hq => by
     rcases mem_put hq with rfl | hq
     · simp only [List.length_append]; omega
     · have := hMb1 q hq; omega
   refine Gs.blk_n (Gn (Gs.reg (Lq rfl (by first | exact pu_addI rfl rfl rfl (by omega) (by omega) | exact pu_add rfl rfl) ?_)))
   refine Lmv rfl rfl (Lnt ?_)
   exact Ag (j + 1, mput M1 p.k (⟨aa, ((mget M1 p.k).getD (slZ : SlV Int)).xs ++ p.t.xs, ac'⟩ : SlV Int)) ⟨hlt2, hM3, Nat.le_trans hl3 (by omega), hb3⟩ (by show lxs.length - (j + 1) < lxs.length - j; omega)
  have hge2 : j = lxs.length := by have := of_decide_eq_false hc2; omega
  have hsame : mm (fun s : SlV Int => s.xs) M1 = (ws.take (i + 1)).foldl (preStep q (plL L)) [] := by
    rw [hnx, hM1, List.take_of_length_le (by rw [List.length_map]; omega)]
  have hl2 : M1.length ≤ 1000 * (i + 1) := by omega
  have hb2 : ∀ p ∈ M1, p.2.xs.length ≤ 1000000 * (i + 1) := fun p hp => by have := hMb1 p hp; omega
  refine Gs.exit (Gx (Gx (Gs.blk_hit (Gs.blk_n (Gn (Gs.reg (Lq rfl (by first | exact pu_addI rfl rfl rfl (by omega) (by omega) | exact pu_add rfl rfl) ?_)))))))
  refine Lmv rfl rfl (Lnt ?_)
  first | exact Ag (i + 1, M) ⟨hlt, hsame, hl2, hb2⟩ (by show ws.length - (i + 1) < ws.length - i; omega) | exact Ag (i + 1, M1) ⟨hlt, hsame, hl2, hb2⟩ (by show ws.length - (i + 1) < ws.length - i; omega)
 have hge : i = ws.length := by have := of_decide_eq_false hc0; omega
 rw [hge, List.take_length] at hM
 refine Gs.exit (Gx (Gx (Gs.blk_hit (Gn (Gsr (Las rfl rfl (Lnt (Gs.seq (Gs.seq (Gs.bigNil (Gs.slNil 106 3 postC ?_)))))))))))
 have hMle : M.length ≤ 100000000 := by omega
 have hMb' : ∀ p ∈ M, p.2.xs.length ≤ 100000000000 := fun p hp => by have := hMb p hp; omega
 refine Gs.reg (Lmv rfl rfl (La rfl (ac_range (enck := keyV) (encv := slV) Tryz.underlying158 rfl (by repeat constructor)) ?_))
 rintro _ _ ⟨ri, rfl, rfl⟩
 refine Lnt (Gs.block (Gs.loop1 (fun s : (Option Addr × Nat) × List (Key × SlV Int) × List (Key × SlV Int) × Option (Key × SlV Int) => List.Perm (s.2.1 ++ s.2.2.1) M) (fun s => [(0, ptr x), (1, .string q), (10, .slice s.1.1 (s.2.1.map srtP).length s.1.2), (48, ptr ri)]) (fun s => [itr keyV slV ri m M s.2.2.1 s.2.2.2, cl x 92 [.map (some ml), .map (some mw)], mp strV slV ml L, mp keyV slV mw W, S, sl 106 3 postC s.1.1 s.1.2 (s.2.1.map srtP), big (s.2.2.1.map atK), big ((s.2.1.map srtP).map atO)] ++ R) (fun s => s.2.2.1.length) ((none, 0), [], M, none) (List.Perm.refl _) (by repeat constructor) (by repeat constructor) (fun s hs => ?_)))
 obtain ⟨⟨oa, oc⟩, pre, left, last⟩ := s
 dsimp only at hs ⊢
 refine Gsr (La rfl (ac_next rfl (by repeat constructor)) ?_)
 rintro _ _ (⟨hl, rfl, rfl⟩ | ⟨j, e, he, rfl, rfl⟩)
 ·
  have hl' : left = [] := hl
  subst hl'
  rw [List.append_nil] at hs
  have hpm := hs.length_eq
  refine Lq rfl (pu_extract rfl rfl) (Lnt (Gs.seq (Gs.cond_f rfl (Gs.exit (Gx (Gx (Gs.blk_hit (Gn (Gsr (Lmv rfl rfl (La rfl (asC (sortPI_spec oa oc (pre.map srtP) (by simp; omega))) ?_)))))))))))
  rintro _ _ ⟨_, ⟨rfl, ys, hys, hpw, rfl⟩, rfl⟩
  refine Lnil (Gs.takes (As := [big ((pre.map srtP).map atO)]) (by repeat constructor) (Gs.bigPerm (hys.symm.map atO) ?_))
  refine Gs.takes (As := [sl 106 3 postC oa oc ys, big (ys.map atO)]) (by repeat constructor) (Gs.toTwo ?_)
  have hpe : List.Perm (plain1 ys) (mm sortI (prefM q (plL L))) := by
    refine (hys.map PostV.p).trans ?_
    rw [prefM, hkl, ← hws, ← hM]
    have : (pre.map srtP).map PostV.p = mm sortI (mm (fun s : SlV Int => s.xs) pre) := by simp [mm, PostV.p]
    rw [this]
    exact (hs.map _).map _
  refine Gn (Gsr (Lmv rfl rfl (Las rfl rfl (Lnt (Gs.ret (Gs.takes (As := [cl x 92 [.map (some ml), .map (some mw)], mp strV slV ml L, mp keyV slV mw W, S]) (by repeat constructor) (Gs.ixc hL hW ?_)))))))
  exact Gs.fin1 Tryz.results72 rfl _ (⟨oa, oc, ys, by rw [hys.length_eq], hpe, hpw, rfl⟩) (by repeat constructor)
 have hjl := (List.getElem?_eq_some_iff.1 he).1
 have hperm : List.Perm ((pre ++ [e]) ++ left.eraseIdx j) M := by
   refine List.Perm.trans ?_ hs
   rw [List.append_assoc]
   exact List.Perm.append_left pre (l_erase_perm he)
 have hlt : (left.eraseIdx j).length < left.length := by
   rw [List.length_eraseIdx_of_lt hjl]; omega
 have hpl : pre.length + left.length = M.length := by have := hs.length_eq; simpa using this
 have heM : e ∈ M := hs.subset (List.mem_append_right _ (List.mem_of_getElem? he))
 have heb := hMb' e heM
 refine Lq rfl (pu_extract rfl rfl) (Lnt (Gs.seq (Gs.cond_t rfl (Gs.skip (Gn (Gs.block (Gsr (Lr rfl (ac_entry rfl (by repeat constructor)) ?_))))))))
 refine Lq rfl (pu_extract rfl rfl) (Lq rfl (pu_extract rfl rfl) (La rfl (ac_alloc zv_28 rfl) ?_))
 rintro _ _ ⟨kb, rfl, rfl⟩
 refine Lac0 rfl trivial (ac_st sz_28 rfl rfl (by repeat constructor) rfl rfl rfl rfl) ?_
 rintro _ _ rfl
 refine Las rfl rfl (Lnil (Gs.takes (As := [big (left.map atK)]) (by repeat constructor) (Gs.bigTake (take_erase he) ?_)))
 refine Gn (Gsr (Lmv rfl rfl (La rfl (asC (sortI_spec e.2.a e.2.c e.2.xs (by omega))) ?_)))
 rintro _ _ ⟨_, ⟨rfl, rfl⟩, rfl⟩
 refine Lnil ?_
 rw [show (slV e.2 : Value) = slV (srtP e).t by show Value.slice _ _ _ = Value.slice _ (sortI e.2.xs).length _; rw [sortI_length]]
 refine Gn (Gs.reg (Lmv rfl rfl (Lr rfl (rd_lda ag_28 rfl (Rdc.cl 2 (by repeat constructor) rfl) rfl) ?_)))
 refine Lmv rfl rfl (Lq rfl (pu_build bd_106 (by repeat constructor) rfl) ?_)
 refine La rfl (ac_lit encC_106 ([srtP e]) et_94 ek_106 rfl (by repeat constructor) rfl rfl (by decide)) ?_
 rintro _ _ ⟨a60, rfl, rfl⟩
 refine La rfl (ac_append (xs := pre.map srtP) (ys := [srtP e]) et_94 ek_106 rfl rfl (by repeat constructor) (SrcH.sl Tryz.underlying94 ek_106 (SlH.own (by repeat constructor))) (by first | omega | (simp; omega)) (by first | omega | (simp; omega))) ?_
 rintro _ _ ⟨a61, c61, rfl, rfl⟩
 refine Las rfl rfl (Lnil ?_)
 rw [show pre.map srtP ++ [srtP e] = (pre ++ [e]).map srtP by simp]
 refine Gs.takes (As := [atO (srtP e), big ((pre.map srtP).map atO)]) (by repeat constructor) (Gs.bigBack take_snoc ?_)
 rw [show (pre.map srtP).map atO ++ [atO (srtP e)] = ((pre ++ [e]).map srtP).map atO by simp]
 refine Gs.blk_n (Gn ?_)
 exact Ag ((a61, c61), pre ++ [e], left.eraseIdx j, some e) hperm hlt
end Go.Proofs.YtklgiidfompdpaaGreatDoor
namespace Go.Ix
open Go Go.Sl Go.Gv Go.Kv Go.Po Go.Bst
end Go.Ix
namespace Go.Sl
open Go Go.Kv
section
variable {P : Program} {n : Nat} {w0 : World} {env : Env} {H : List HProp} {κ ν : Type}
end
end Go.Sl
namespace Go.Proofs.YtklgiidfompdpaaGreatDoor
open Go Go.Sl Go.Gv Go.Kv Go.Po Go.Ix Go.Bst
set_option maxRecDepth 100000
end Go.Proofs.YtklgiidfompdpaaGreatDoor
namespace Go.Ix
open Go Go.Sl Go.Gv Go.Kv Go.Po Go.Bst
theorem snoc_ind {α : Type} {P : List α → Prop} (h0 : P []) (hs : ∀ l x, P l → P (l ++ [x])) (l : List α) : P l := by
 rw [← l.reverse_reverse]
 induction l.reverse with
 | nil => exact h0
 | cons x m ih => rw [List.reverse_cons]; exact hs _ _ ih
section
variable {κ α : Type} [DecidableEq κ]
theorem mget_perm {m n : List (κ × α)} (hm : (mkeys m).Nodup) (p : List.Perm m n) (k : κ) : mget m k = mget n k := by
 have hn : (mkeys n).Nodup := (p.map _).nodup_iff.1 hm
 cases h : mget m k with
 | some v => exact (mget_of_mem hn (p.subset (mget_mem h))).symm
 | none =>
   cases h2 : mget n k with
   | none => rfl
   | some v => rw [mget_of_mem hm (p.symm.subset (mget_mem h2))] at h; cases h
end
def atsOf (T : List WordP) (w : ByteArray) : List Int := (T.filter fun p => decide (p.1 = w)).map Prod.snd
theorem posL_snoc (T : List WordP) (p : WordP) : posL (T ++ [p]) = posStep (posL T) p := by unfold posL; rw [List.foldl_append]; rfl
theorem atsOf_snoc (T : List WordP) (p : WordP) (w : ByteArray) : atsOf (T ++ [p]) w = if w = p.1 then atsOf T w ++ [p.2] else atsOf T w := by
 unfold atsOf
 rw [List.filter_append, List.map_append]
 by_cases h : w = p.1
 · subst h; simp
 · rw [if_neg h, List.filter_cons_of_neg (by simpa using fun e : p.1 = w => h e.symm)]; simp
theorem posL_get (T : List WordP) (w : ByteArray) : mget (posL T) w = if atsOf T w = [] then none else some (atsOf T w) := by
 refine snoc_ind (P := fun T => mget (posL T) w = if atsOf T w = [] then none else some (atsOf T w)) rfl (fun T p ih => ?_) T
 rw [posL_snoc, posStep, mget_put, atsOf_snoc]
 by_cases h : w = p.1
 · subst h
   have e : (mget (posL T) p.1).getD [] = atsOf T p.1 := by
     rw [ih]; split
     · rename_i e; rw [e]; rfl
     · rfl
   rw [if_pos rfl, if_pos rfl, e, if_neg (by simp)]
 · rw [if_neg h, if_neg h, ih]
theorem posL_nodup (T : List WordP) : (mkeys (posL T)).Nodup :=
 snoc_ind (P := fun T => (mkeys (posL T)).Nodup) List.nodup_nil (fun T p ih => by rw [posL_snoc, posStep]; exact nodup_put ih _ _) T
theorem rises_pw : ∀ {l : List Int} {a : Int}, (∀ x ∈ l, a < x) → l.Pairwise (· < ·) → risesFrom a l = true
 | [], _, _, _ => rfl
 | n :: l, a, h, hp => by
   have hp' := List.pairwise_cons.1 hp
   unfold risesFrom
   rw [decide_eq_true (h n (by simp)), Bool.true_and]
   exact rises_pw hp'.1 hp'.2
def UpT (T : List WordP) : Prop := T.Pairwise (fun p q => p.2 < q.2) ∧ ∀ p ∈ T, 0 ≤ p.2
theorem ats_up {T : List WordP} (h : UpT T) (w : ByteArray) : (atsOf T w).Pairwise (· < ·) ∧ ∀ x ∈ atsOf T w, 0 ≤ x := by
 unfold atsOf
 refine ⟨?_, fun x hx => ?_⟩
 · rw [List.pairwise_map]
   exact List.Pairwise.filter _ h.1
 · obtain ⟨p, hp, rfl⟩ := List.mem_map.1 hx
   exact h.2 p (List.mem_filter.1 hp).1
theorem posL_rises {T : List WordP} (h : UpT T) {w : ByteArray} {l : List Int} (hl : mget (posL T) w = some l) : risesB l = true := by
 rw [posL_get] at hl
 split at hl
 · cases hl
 · rename_i hne
   cases hl
   unfold risesB
   rw [decide_eq_true hne, Bool.and_true]
   exact rises_pw (fun x hx => by have := (ats_up h w).2 x hx; omega) (ats_up h w).1
theorem fold_putW (k : Key) : ∀ (es : List (ByteArray × List Int)) (P : PL), (mkeys es).Nodup → ∀ w, mget (es.foldl (putW k) P) w = match mget es w with
   | none => mget P w
   | some at' => some (putP ((mget P w).getD []) (k, at'))
 | [], _, _, _ => rfl
 | e :: es, P, hn, w => by
   have hn' := List.nodup_cons.1 hn
   rw [List.foldl_cons, fold_putW k es _ hn'.2 w]
   have he : mget (e :: es) w = if w = e.1 then some e.2 else mget es w := by
     obtain ⟨a, b⟩ := e; rfl
   rw [he]
   by_cases h : w = e.1
   · subst h
     rw [if_pos rfl, mget_none.2 hn'.1]
     show mget (mput P e.1 _) e.1 = _
     rw [mget_put, if_pos rfl]
   · have h2 : mget (putW k P e) w = mget P w := by
       show mget (mput P e.1 _) w = _
       rw [mget_put, if_neg h]
     rw [if_neg h, h2]
theorem fold_putW_nodup (k : Key) : ∀ (es : List (ByteArray × List Int)) (P : PL), (mkeys P).Nodup → (mkeys (es.foldl (putW k) P)).Nodup
 | [], _, h => h
 | e :: es, P, h => fold_putW_nodup k es _ (nodup_put h _ _)
theorem dropE_nodup {k : Key} {P : PL} (w : ByteArray) (h : (mkeys P).Nodup) : (mkeys (dropE k P w)).Nodup := by
 unfold dropE; split
 · exact nodup_del (nodup_put h _ _) _
 · exact nodup_put h _ _
theorem dropE_get {k : Key} {P : PL} (h : (mkeys P).Nodup) (w v : ByteArray) : mget (dropE k P w) v = if v = w then (if dropP ((mget P w).getD []) k = [] then none else some (dropP ((mget P w).getD []) k)) else mget P v := by
 unfold dropE
 by_cases hd : dropP ((mget P w).getD []) k = []
 · rw [if_pos hd, if_pos hd, mget_del (nodup_put h _ _), mget_put]
   by_cases e : v = w <;> simp [e]
 · rw [if_neg hd, if_neg hd, mget_put]
open Classical in
theorem fold_dropE (k : Key) : ∀ (ws : List ByteArray) (P : PL), (mkeys P).Nodup → ws.Nodup → (mkeys (ws.foldl (dropE k) P)).Nodup ∧ ∀ w, mget (ws.foldl (dropE k) P) w = if w ∈ ws then (if dropP ((mget P w).getD []) k = [] then none else some (dropP ((mget P w).getD []) k)) else mget P w
 | [], _, h, _ => ⟨h, fun w => by simp⟩
 | v :: ws, P, h, hn => by
   have hn' := List.nodup_cons.1 hn
   obtain ⟨h1, h2⟩ := fold_dropE k ws _ (dropE_nodup (k := k) v h) hn'.2
   refine ⟨h1, fun w => ?_⟩
   rw [List.foldl_cons, h2 w, dropE_get h]
   by_cases e : w = v
   · subst e
     rw [if_neg hn'.1, if_pos rfl, if_pos (List.mem_cons_self : w ∈ w :: ws)]
   · rw [if_neg e]
     by_cases hm : w ∈ ws
     · rw [if_pos hm, if_pos (List.mem_cons_of_mem v hm : w ∈ v :: ws)]
     · rw [if_neg hm, if_neg (fun hc => (List.mem_cons.1 hc).elim e hm : ¬ w ∈ v :: ws)]
end Go.Ix
namespace Go.Proofs.YtklgiidfompdpaaGreatDoor
open Go Go.Sl Go.Gv Go.Kv Go.Po Go.Ix Go.Bst
abbrev tok (r : Rec) : List (ByteArray × List Int) := posL (toksV r.t)
theorem toks_up : ∀ (l : List ByteArray) (i : Nat), (toksOf l i).Pairwise (fun p q => p.2 < q.2) ∧ ∀ p ∈ toksOf l i, (i : Int) ≤ p.2
 | [], _ => ⟨List.Pairwise.nil, fun _ h => by cases h⟩
 | w :: l, i => by
   obtain ⟨h1, h2⟩ := toks_up l (i + 1)
   have e : toksOf (w :: l) i = (w, (i : Int)) :: toksOf l (i + 1) := by unfold toksOf; rw [List.zipIdx_cons]; rfl
   rw [e]
   refine ⟨List.pairwise_cons.2 ⟨fun q hq => ?_, h1⟩, fun p hp => ?_⟩
   · have := h2 q hq; show (i : Int) < q.2; omega
   · rcases List.mem_cons.1 hp with rfl | hp
     · exact Int.le_refl _
     · have := h2 p hp; omega
theorem up_toks (s : ByteArray) : UpT (toksV s) := ⟨(toks_up _ 0).1, fun p hp => by have := (toks_up _ 0).2 p hp; omega⟩
structure IxIs (rs : List Rec) (s : PL × PW) : Prop where
 keys : (rs.map Rec.key).Nodup
 ln : (mkeys s.1).Nodup
 wn : (mkeys s.2).Nodup
 ws : ∀ k l, mget s.2 k = some l ↔ ∃ r ∈ rs, r.key = k ∧ l = sortB (mkeys (tok r))
 mem : ∀ w l, mget s.1 w = some l → l ≠ [] ∧ mayB l = true ∧ ∀ p, p ∈ l ↔ ∃ r ∈ rs, p.1 = r.key ∧ mget (tok r) w = some p.2
 non : ∀ w, mget s.1 w = none → ∀ r ∈ rs, mget (tok r) w = none
theorem IxIs.nil : IxIs [] ([], []) := ⟨List.nodup_nil, List.nodup_nil, List.nodup_nil, fun k l => ⟨fun h => (by cases h), fun ⟨r, h, _⟩ => (by cases h)⟩, fun w l h => (by cases h), fun w _ r h => (by cases h)⟩
theorem IxIs.getD {rs : List Rec} {s : PL × PW} (h : IxIs rs s) (w : ByteArray) : mayB ((mget s.1 w).getD []) = true ∧ ∀ p, p ∈ (mget s.1 w).getD [] ↔ ∃ r ∈ rs, p.1 = r.key ∧ mget (tok r) w = some p.2 := by
 cases hm : mget s.1 w with
 | none => exact ⟨rfl, fun p => ⟨fun hp => (by cases hp), fun ⟨r, hr, _, h2⟩ => (by rw [h.non w hm r hr] at h2; cases h2)⟩⟩
 | some l => exact (h.mem w l hm).2
theorem put_mem {L : List PostP} {x : PostP} (hm : mayB L = true) (hx : risesB x.2 = true) (hf : ∀ p ∈ L, p.1 ≠ x.1) (p : PostP) : p ∈ putP L x ↔ p = x ∨ p ∈ L := by
 rw [put_is hm hx]
 simp only [List.mem_append, List.mem_filter, List.mem_cons, List.not_mem_nil, or_false]
 refine ⟨fun h => ?_, fun h => ?_⟩
 · rcases h with (h | h) | h
   · exact .inr h.1
   · exact .inl h
   · exact .inr h.1
 · rcases h with h | h
   · exact .inl (.inr h)
   · rcases before_total (hf p h) with e | e
     · exact .inl (.inl ⟨h, e⟩)
     · exact .inr ⟨h, e⟩
theorem IxIs.put {rs : List Rec} {s : PL × PW} (h : IxIs rs s) {r : Rec} (hn : r.key ∉ rs.map Rec.key) {es : List (ByteArray × List Int)} (hp : List.Perm es (tok r)) :
   IxIs (rs ++ [r]) (es.foldl (putW r.key) s.1, mput s.2 r.key (sortB (mkeys (tok r)))) := by
 have hes : (mkeys es).Nodup := (hp.map _).nodup_iff.2 (posL_nodup _)
 have hg : ∀ w, mget (es.foldl (putW r.key) s.1) w = match mget (tok r) w with | none => mget s.1 w | some at' => some (putP ((mget s.1 w).getD []) (r.key, at')) := fun w => by
   rw [fold_putW r.key es s.1 hes w, mget_perm hes hp w]
 refine ⟨?_, fold_putW_nodup _ _ _ h.ln, nodup_put h.wn _ _, fun k l => ?_, fun w l hl => ?_, fun w hl => ?_⟩
 · rw [List.map_append, List.nodup_append]
   exact ⟨h.keys, by simp, fun a ha b hb => by simp at hb; subst hb; exact fun e => hn (e ▸ ha)⟩
 · show mget (mput s.2 r.key _) k = some l ↔ _
   rw [mget_put]
   by_cases e : k = r.key
   · subst e
     rw [if_pos rfl]
     constructor
     · intro hh; cases hh; exact ⟨r, by simp, rfl, rfl⟩
     · rintro ⟨r', hr', hk, rfl⟩
       rcases List.mem_append.1 hr' with hr' | hr'
       · exact (hn (hk ▸ List.mem_map.2 ⟨r', hr', rfl⟩)).elim
       · rw [List.mem_singleton.1 hr']
   · rw [if_neg e, h.ws]
     constructor
     · rintro ⟨r', hr', h1, h2⟩; exact ⟨r', by simp [hr'], h1, h2⟩
     · rintro ⟨r', hr', h1, h2⟩
       rcases List.mem_append.1 hr' with hr' | hr'
       · exact ⟨r', hr', h1, h2⟩
       · rw [List.mem_singleton.1 hr'] at h1; exact (e h1.symm).elim
 · change mget (es.foldl (putW r.key) s.1) w = some l at hl
   rw [hg] at hl
   obtain ⟨hm, hmem⟩ := h.getD w
   cases ht : mget (tok r) w with
   | none =>
     rw [ht] at hl
     obtain ⟨h1, h2, h3⟩ := h.mem w l hl
     refine ⟨h1, h2, fun p => (h3 p).trans ⟨fun ⟨r', hr', h4, h5⟩ => ⟨r', by simp [hr'], h4, h5⟩, fun ⟨r', hr', h4, h5⟩ => ?_⟩⟩
     rcases List.mem_append.1 hr' with hr' | hr'
     · exact ⟨r', hr', h4, h5⟩
     · rw [List.mem_singleton.1 hr', ht] at h5; cases h5
   | some at' =>
     rw [ht] at hl
     have hr := posL_rises (up_toks r.t) ht
     cases hl
     have hf : ∀ p ∈ (mget s.1 w).getD [], p.1 ≠ (r.key, at').1 := fun p hp e => by
       obtain ⟨r', hr', h4, -⟩ := (hmem p).1 hp
       exact hn (List.mem_map.2 ⟨r', hr', by rw [← h4]; exact e⟩)
     have hpm := put_mem hm (x := (r.key, at')) hr hf
     refine ⟨fun e => ?_, put_may hm hr, fun p => ?_⟩
     · have := (hpm (r.key, at')).2 (.inl rfl); rw [e] at this; cases this
     · rw [hpm, hmem]
       constructor
       · rintro (rfl | ⟨r', hr', h4, h5⟩)
         · exact ⟨r, by simp, rfl, ht⟩
         · exact ⟨r', by simp [hr'], h4, h5⟩
       · rintro ⟨r', hr', h4, h5⟩
         rcases List.mem_append.1 hr' with hr' | hr'
         · exact .inr ⟨r', hr', h4, h5⟩
         · rw [List.mem_singleton.1 hr'] at h4 h5
           rw [ht] at h5
           exact .inl (Prod.ext h4 (Option.some.inj h5).symm)
 · change mget (es.foldl (putW r.key) s.1) w = none at hl
   rw [hg] at hl
   cases ht : mget (tok r) w with
   | none =>
     rw [ht] at hl
     intro r' hr'
     rcases List.mem_append.1 hr' with hr' | hr'
     · exact h.non w hl r' hr'
     · rw [List.mem_singleton.1 hr']; exact ht
   | some at' => rw [ht] at hl; cases hl
theorem key_inj {rs : List Rec} (h : (rs.map Rec.key).Nodup) {a b : Rec} (ha : a ∈ rs) (hb : b ∈ rs) (e : a.key = b.key) : a = b := by
 induction rs with
 | nil => cases ha
 | cons x l ih =>
   have h' := List.nodup_cons.1 h
   rcases List.mem_cons.1 ha with h1 | h1
   · rcases List.mem_cons.1 hb with h2 | h2
     · rw [h1, h2]
     · exact (h'.1 (List.mem_map.2 ⟨b, h2, by rw [← e, h1]⟩)).elim
   · rcases List.mem_cons.1 hb with h2 | h2
     · exact (h'.1 (List.mem_map.2 ⟨a, h1, by rw [e, h2]⟩)).elim
     · exact ih h'.2 h1 h2
theorem IxIs.drop {rs : List Rec} {s : PL × PW} (h : IxIs rs s) {r : Rec} (hr : r ∈ rs) :
   IxIs (rs.filter fun x => decide (x.key ≠ r.key)) ((sortB (mkeys (tok r))).foldl (dropE r.key) s.1, mdel s.2 r.key) := by
 have hsn : (sortB (mkeys (tok r))).Nodup := (sortB_perm _).nodup_iff.2 (posL_nodup _)
 obtain ⟨hn, hg⟩ := fold_dropE r.key (sortB (mkeys (tok r))) s.1 h.ln hsn
 have hin : ∀ w, w ∈ sortB (mkeys (tok r)) ↔ mget (tok r) w ≠ none := fun w => by
   rw [sortB_mem]
   have := mget_none (m := tok r) (k := w)
   exact ⟨fun hm e => this.1 e hm, fun hm => Classical.byContradiction fun hc => hm (this.2 hc)⟩
 have hf : ∀ x, x ∈ rs.filter (fun x => decide (x.key ≠ r.key)) ↔ x ∈ rs ∧ x.key ≠ r.key := fun x => by rw [List.mem_filter]; simp
 have hdm : ∀ w p, p ∈ dropP ((mget s.1 w).getD []) r.key ↔ ∃ r' ∈ rs.filter (fun x => decide (x.key ≠ r.key)), p.1 = r'.key ∧ mget (tok r') w = some p.2 := fun w p => by
   obtain ⟨hm, hmem⟩ := h.getD w
   rw [dropP, if_pos hm, List.mem_filter, hmem]
   constructor
   · rintro ⟨⟨r', hr', h4, h5⟩, h6⟩
     exact ⟨r', (hf r').2 ⟨hr', by rw [← h4]; exact of_decide_eq_true h6⟩, h4, h5⟩
   · rintro ⟨r', hr', h4, h5⟩
     exact ⟨⟨r', ((hf r').1 hr').1, h4, h5⟩, decide_eq_true (by rw [h4]; exact ((hf r').1 hr').2)⟩
 refine ⟨List.Nodup.sublist (List.Sublist.map _ List.filter_sublist) h.keys, hn, nodup_del h.wn _, fun k l => ?_, fun w l hl => ?_, fun w hl r' hr' => ?_⟩
 · show mget (mdel s.2 r.key) k = some l ↔ _
   rw [mget_del h.wn]
   by_cases e : k = r.key
   · rw [if_pos e]
     constructor
     · intro hh; cases hh
     · rintro ⟨r', hr', h1, -⟩; exact (((hf r').1 hr').2 (h1.trans e)).elim
   · rw [if_neg e, h.ws]
     constructor
     · rintro ⟨r', hr', h1, h2⟩; exact ⟨r', (hf r').2 ⟨hr', by rw [h1]; exact e⟩, h1, h2⟩
     · rintro ⟨r', hr', h1, h2⟩; exact ⟨r', ((hf r').1 hr').1, h1, h2⟩
 · change mget ((sortB (mkeys (tok r))).foldl (dropE r.key) s.1) w = some l at hl
   rw [hg] at hl
   obtain ⟨hm, hmem⟩ := h.getD w
   by_cases hw : w ∈ sortB (mkeys (tok r))
   · rw [if_pos hw] at hl
     split at hl
     · cases hl
     · rename_i hne
       cases hl
       exact ⟨hne, drop_may hm _, hdm w⟩
   · rw [if_neg hw] at hl
     obtain ⟨h1, h2, h3⟩ := h.mem w l hl
     have ht : mget (tok r) w = none := Classical.byContradiction fun hc => hw ((hin w).2 hc)
     refine ⟨h1, h2, fun p => (h3 p).trans ⟨fun ⟨r', hr', h4, h5⟩ => ⟨r', (hf r').2 ⟨hr', fun e => ?_⟩, h4, h5⟩, fun ⟨r', hr', h4, h5⟩ => ⟨r', ((hf r').1 hr').1, h4, h5⟩⟩⟩
     rw [key_inj h.keys hr' hr e, ht] at h5; cases h5
 · change mget ((sortB (mkeys (tok r))).foldl (dropE r.key) s.1) w = none at hl
   rw [hg] at hl
   cases ht : mget (tok r') w with
   | none => rfl
   | some at' =>
     exfalso
     by_cases hw : w ∈ sortB (mkeys (tok r))
     · rw [if_pos hw] at hl
       split at hl
       · rename_i e
         have := (hdm w (r'.key, at')).2 ⟨r', hr', rfl, ht⟩
         rw [e] at this; cases this
       · cases hl
     · rw [if_neg hw] at hl
       rw [h.non w hl r' ((hf r').1 hr').1] at ht; cases ht
theorem IxIs.wkeys {rs : List Rec} {s : PL × PW} (h : IxIs rs s) : List.Perm (mkeys s.2) (rs.map Rec.key) := by
 rw [List.perm_ext_iff_of_nodup h.wn h.keys]
 intro k
 have := mget_none (m := s.2) (k := k)
 constructor
 · intro hk
   cases hm : mget s.2 k with
   | none => exact ((this.1 hm) hk).elim
   | some l => obtain ⟨r, hr, h1, -⟩ := (h.ws k l).1 hm; exact List.mem_map.2 ⟨r, hr, h1⟩
 · intro hk
   obtain ⟨r, hr, rfl⟩ := List.mem_map.1 hk
   have := mget_mem ((h.ws r.key _).2 ⟨r, hr, rfl, rfl⟩)
   exact List.mem_map.2 ⟨_, this, rfl⟩
theorem IxIs.has {rs : List Rec} {s : PL × PW} (h : IxIs rs s) (k : Key) : (mget s.2 k).isSome = decide (k ∈ rs.map Rec.key) := by
 rw [← decide_eq_decide.2 (h.wkeys.mem_iff (a := k))]
 have := mget_none (m := s.2) (k := k)
 cases hm : mget s.2 k with
 | none => exact (decide_eq_false (this.1 hm)).symm
 | some l => exact (decide_eq_true (Classical.byContradiction fun hc => by rw [this.2 hc] at hm; cases hm)).symm
def putR (rs : List Rec) (r : Rec) : List Rec := if recB r && decide (r.key ∉ rs.map Rec.key) then rs ++ [r] else rs
theorem IxIs.putN {rs : List Rec} {s : PL × PW} (h : IxIs rs s) (r : Rec) : YtklgiidfompdpaaGreatDoor.putN s.2 r = if recB r then (if r.key ∈ rs.map Rec.key then 6 else 0) else 2 := by
 unfold YtklgiidfompdpaaGreatDoor.putN
 rw [h.has]
 by_cases e : r.key ∈ rs.map Rec.key <;> simp [e]
theorem IxIs.putI {rs : List Rec} {s s' : PL × PW} (h : IxIs rs s) {r : Rec} (hp : PutI r (toksV r.t) s s') : IxIs (putR rs r) s' := by
 unfold PutI at hp
 rw [h.putN] at hp
 unfold putR
 by_cases hr : recB r = true
 · by_cases hk : r.key ∈ rs.map Rec.key
   · rw [if_pos hr, if_pos hk, if_neg (by decide)] at hp
     rw [if_neg (by simp [hk]), hp]; exact h
   · rw [if_pos hr, if_neg hk, if_pos rfl] at hp
     obtain ⟨es, hes, rfl⟩ := hp
     rw [if_pos (by simp [hr, hk])]
     exact h.put hk hes
 · rw [if_neg hr, if_neg (by decide)] at hp
   rw [if_neg (by simp [hr]), hp]; exact h
def dropR (rs : List Rec) (k : Key) : List Rec := rs.filter fun x => decide (x.key ≠ k)
theorem dropR_none {rs : List Rec} {k : Key} (h : k ∉ rs.map Rec.key) : dropR rs k = rs := List.filter_eq_self.2 fun x hx => decide_eq_true fun e => h (List.mem_map.2 ⟨x, hx, e⟩)
theorem IxIs.dropK {rs : List Rec} {s : PL × PW} (h : IxIs rs s) (k : Key) (n : Nat) : ∃ s' : PL × PW, Ix.dropK (s.1, s.2, n) k = (s'.1, s'.2, if k ∈ rs.map Rec.key then n + 1 else n) ∧ IxIs (dropR rs k) s' := by
 by_cases hk : k ∈ rs.map Rec.key
 · obtain ⟨r, hr, rfl⟩ := List.mem_map.1 hk
   refine ⟨_, ?_, h.drop hr⟩
   rw [if_pos hk]
   unfold Ix.dropK
   rw [show mget (s.1, s.2, n).2.1 r.key = some (sortB (mkeys (tok r))) from (h.ws _ _).2 ⟨r, hr, rfl, rfl⟩]
 · refine ⟨s, ?_, by rw [dropR_none hk]; exact h⟩
   rw [if_neg hk]
   unfold Ix.dropK
   have : mget s.2 k = none := mget_none.2 fun hm => hk (h.wkeys.mem_iff.1 hm)
   rw [show mget (s.1, s.2, n).2.1 k = none from this]
end Go.Proofs.YtklgiidfompdpaaGreatDoor
namespace Go.Ix
open Go Go.Sl Go.Gv Go.Kv Go.Po Go.Bst
theorem nodup_sub {α : Type} [BEq α] [LawfulBEq α] : ∀ {l m : List α}, l.Nodup → (∀ x ∈ l, x ∈ m) → l.length ≤ m.length
 | [], _, _, _ => Nat.zero_le _
 | a :: l, m, hn, h => by
   have hn' := List.nodup_cons.1 hn
   have ha := h a List.mem_cons_self
   have hp := List.perm_cons_erase ha
   have := nodup_sub (m := m.erase a) hn'.2 fun x hx => by
     have hx2 := hp.subset (h x (List.mem_cons_of_mem _ hx))
     rcases List.mem_cons.1 hx2 with e | e
     · exact (hn'.1 (e ▸ hx)).elim
     · exact e
   have hl := hp.length_eq
   simp only [List.length_cons] at hl ⊢
   omega
end Go.Ix
namespace Go.Proofs.YtklgiidfompdpaaGreatDoor
open Go Go.Sl Go.Gv Go.Kv Go.Po Go.Ix Go.Bst
set_option maxRecDepth 100000
theorem greatRecords_spec {S : HProp} {a : Option Addr} {c : Nat} {xs : List Rec} (hS : Srd S 5 recC a xs) (hl : xs.length ≤ 9223372036854775807) (k : Int) :
   Ct Tryz.prog 26 [.slice a xs.length c, int k] [S] (fun v hs => (∃ b : Bool, v = .bool b ∧ (b = false → xs.length ≤ k)) ∧ hs = [S]) := by
 refine Cti Tryz.func26 (by kernel_rfl) 29 Tryz.ntmps26 rfl rfl fun w0 R => ?_
 refine Gs.slAddr (hS.h (by repeat constructor)) fun ab ao ha => ?_
 refine Gsr (Las rfl rfl (Lnt (Gs.seq (Gsr (Las rfl rfl (Lnt (Gs.block (Gs.loop1 (fun i : Nat => i ≤ xs.length) (fun i => [(0, .slice a xs.length c), (1, int k), (5, int i)]) (fun i => [S] ++ R) (fun i => xs.length - i) 0 (Nat.zero_le _) (by repeat constructor) (by repeat constructor) (fun i hi => ?_)))))))))
 refine Gs.seq (Gsr (Lmv rfl rfl (Lmv rfl rfl (Lq rfl (pu_len Tryz.underlying41 rfl) (Lq rfl (pu_lt rfl rfl) (LpuB rfl rfl trivial (pu_move rfl) (fun hg4 => ?_) (fun hg4 => ?_)))))))
 ·
  have hlt : i < xs.length := by have := of_decide_eq_true hg4; omega
  obtain ⟨x, hx⟩ : ∃ x, xs[i]? = some x := ⟨xs[i], by simp [hlt]⟩
  obtain rfl := ha (by rintro rfl; simp at hlt)
  refine Lpu rfl rfl ⟨_, rfl, rfl⟩ (pu_move rfl) (Lpu rfl rfl ⟨_, rfl, rfl⟩ (pu_len Tryz.underlying41 rfl) (Lpu rfl rfl ⟨_, rfl, rfl⟩ (pu_move rfl) (Lpu rfl rfl ⟨_, rfl, rfl⟩ (pu_le rfl rfl) (Lpk rfl rfl rfl (Lnt (Gs.cond rfl (fun hc0 => ?_) (fun hc0 => ?_)))))))
  ·
   refine Gs.skip (Gn (Gs.seq (Gs.block (Gsr (Lmv rfl rfl (Lmv rfl rfl (Lq rfl (pu_ia se_41 rfl rfl (by omega) (by omega)) (Lq rfl (pu_fa fa_32_2 rfl) (Lr rfl (rd_ld na_9 rfl (Rdc.elp 1 (hS.h (by repeat constructor)) hx rfl rfl)) ?_)))))))))
   refine Lq rfl (pu_lenS Tryz.underlying9 rfl) (Lq rfl (pu_gt rfl rfl) (Lnt (Gs.cond rfl (fun hc1 => ?_) (fun hc1 => ?_))))
   ·
    refine Gsr (Las rfl rfl (Lnt (Gs.ret (Gs.blk_r (Gr (Gr (Gs.blk_r (Gr ?_))))))))
    exact Gs.fin1 Tryz.results26 rfl _ (⟨⟨true, rfl, fun h => by cases h⟩, rfl⟩) (by repeat constructor)
   refine Gs.skip (Gs.blk_n (Gn (Gs.reg (Lmv rfl rfl (Lq rfl (by first | exact pu_addI rfl rfl rfl (by omega) (by omega) | exact pu_add rfl rfl) ?_)))))
   refine Las rfl rfl (Lnt ?_)
   exact Ag (i + 1) (by omega) (by omega)
  refine Gs.exit (Gx (Gx (Gs.blk_hit (Gn (Gsr (Lmv rfl rfl (Lq rfl (pu_len Tryz.underlying41 rfl) (Lmv rfl rfl (Lq rfl (pu_gt rfl rfl) (Las rfl rfl (Lnt ?_)))))))))))
  refine Gs.ret ?_
  exact Gs.fin1 Tryz.results26 rfl _ (⟨⟨_, rfl, fun h => by have := of_decide_eq_false h; omega⟩, rfl⟩) (by repeat constructor)
 refine Lof rfl (Lof rfl (Lof rfl (Lof rfl (Lpk rfl rfl rfl (Lnt (Gs.cond_f rfl (Gs.exit (Gx (Gx (Gs.blk_hit (Gn ?_)))))))))))
 refine Gsr (Lmv rfl rfl (Lq rfl (pu_len Tryz.underlying41 rfl) (Lmv rfl rfl (Lq rfl (pu_gt rfl rfl) (Las rfl rfl (Lnt (Gs.ret ?_)))))))
 exact Gs.fin1 Tryz.results26 rfl _ (⟨⟨_, rfl, fun h => by have := of_decide_eq_false h; omega⟩, rfl⟩) (by repeat constructor)
abbrev recI (n : Int) (s : ByteArray) : Rec := ⟨1, n, 0, 0, s⟩
theorem toks_le (r : Rec) : (tok r).length ≤ 121 := by
 have h : ∀ T : List WordP, (posL T).length ≤ T.length := fun T => by
   refine snoc_ind (P := fun T => (posL T).length ≤ T.length) (Nat.le_refl _) (fun T p ih => ?_) T
   rw [posL_snoc, posStep, List.length_append]
   have := mput_len (posL T) p.1 ((mget (posL T) p.1).getD [] ++ [p.2])
   simp only [List.length_cons, List.length_nil]; omega
 have := h (toksV r.t)
 rw [toksV, toks_length] at this
 exact Nat.le_trans this (words_len _)
theorem sum_le {α : Type} {f : α → List ByteArray} {k : Nat} : ∀ (l : List α), (∀ x ∈ l, (f x).length ≤ k) → (l.flatMap f).length ≤ k * l.length
 | [], _ => by simp
 | x :: l, h => by
   have h1 := h x List.mem_cons_self
   have h2 := sum_le l fun y hy => h y (List.mem_cons_of_mem _ hy)
   rw [List.flatMap_cons, List.length_append, List.length_cons, Nat.mul_add]; omega
theorem IxIs.words {rs : List Rec} {s : PL × PW} (h : IxIs rs s) : s.1.length ≤ 121 * rs.length := by
 have h1 : (mkeys s.1).length ≤ (rs.flatMap fun r => mkeys (tok r)).length := by
   have hb : ∀ l m : List ByteArray, l.Nodup → (∀ x ∈ l, x ∈ m) → l.length ≤ m.length := fun l m => by
     letI : BEq ByteArray := instBEqOfDecidableEq
     exact nodup_sub
   refine hb _ _ h.ln fun w hw => ?_
   cases hm : mget s.1 w with
   | none => exact (mget_none.1 hm hw).elim
   | some l =>
     obtain ⟨h1, -, h3⟩ := h.mem w l hm
     obtain ⟨p, hpl⟩ := List.exists_mem_of_ne_nil l h1
     obtain ⟨r, hr, -, h5⟩ := (h3 p).1 hpl
     exact List.mem_flatMap.2 ⟨r, hr, List.mem_map.2 ⟨_, mget_mem h5, rfl⟩⟩
 have h2 := sum_le (f := fun r => mkeys (tok r)) (k := 121) rs fun r _ => by rw [List.length_map]; exact toks_le r
 rw [List.length_map] at h1; omega
theorem IxIs.wlen {rs : List Rec} {s : PL × PW} (h : IxIs rs s) : s.2.length = rs.length := by have := h.wkeys.length_eq; simpa using this
theorem IxIs.lists {rs : List Rec} {s : PL × PW} (h : IxIs rs s) {w : ByteArray} {l : List PostP} (hm : mget s.1 w = some l) : l.length ≤ rs.length := by
 obtain ⟨-, h2, h3⟩ := h.mem w l hm
 have nd : (l.map Prod.fst).Nodup := by
   have := may_asc h2
   exact this.imp fun {a b} hab e => by rw [e, before_irr] at hab; cases hab
 have := nodup_sub (m := rs.map Rec.key) nd fun k hk => by
   obtain ⟨p, hp, rfl⟩ := List.mem_map.1 hk
   obtain ⟨r, hr, h4, -⟩ := (h3 p).1 hp
   exact List.mem_map.2 ⟨r, hr, h4.symm⟩
 simpa using this
theorem IxIs.short {rs : List Rec} {L : List (ByteArray × SlV PostV)} {W : List (Key × SlV ByteArray)} (h : IxIs rs (plL L, plW W)) : ∀ p ∈ L, p.2.xs.length ≤ rs.length := fun p hp => by
 have hn : (mkeys L).Nodup := by have := h.ln; simpa [plL, mm, mkeys, Function.comp_def] using this
 have hm := mget_of_mem hn (show (p.1, p.2) ∈ L from hp)
 have := h.lists (w := p.1) (l := plain1 p.2.xs) (by show mget (plL L) p.1 = _; rw [plL, mm_get, hm]; rfl)
 simpa using this
theorem IxIs.llen {rs : List Rec} {L : List (ByteArray × SlV PostV)} {W : List (Key × SlV ByteArray)} (h : IxIs rs (plL L, plW W)) : L.length ≤ 121 * rs.length := by have := h.words; simpa [plL, mm] using this
theorem IxIs.rlen {rs : List Rec} {L : List (ByteArray × SlV PostV)} {W : List (Key × SlV ByteArray)} (h : IxIs rs (plL L, plW W)) : W.length = rs.length := by have := h.wlen; simpa [plW, mm] using this
theorem putR_len (rs : List Rec) (r : Rec) : (putR rs r).length ≤ rs.length + 1 := by unfold putR; split <;> simp
end Go.Proofs.YtklgiidfompdpaaGreatDoor
namespace Go.Qu
open Go Go.Sl Go.Gv Go.Ix
inductive AskV where
 | mk (kind n : Int) (w : SlV ByteArray) (sa : Option Addr) (sc : Nat) (ss : List AskV)
def AskV.kind : AskV → Int | .mk k _ _ _ _ _ => k
def AskV.n : AskV → Int | .mk _ n _ _ _ _ => n
def AskV.w : AskV → SlV ByteArray | .mk _ _ w _ _ _ => w
def AskV.sa : AskV → Option Addr | .mk _ _ _ sa _ _ => sa
def AskV.sc : AskV → Nat | .mk _ _ _ _ sc _ => sc
def AskV.ss : AskV → List AskV | .mk _ _ _ _ _ ss => ss
abbrev AskV.ws (a : AskV) : List ByteArray := a.w.xs
abbrev askC (a : AskV) : List Value := [int a.kind, int a.n, .slice a.w.a a.w.xs.length a.w.c, .slice a.sa a.ss.length a.sc]
abbrev askV (a : AskV) : Value := .agg (askC a).toArray
inductive ARd (S : HProp) : AskV → Prop
 | mk {a : AskV} (hw : Srd S 1 strC a.w.a a.w.xs) (hs : Srd S 4 askC a.sa a.ss) (hl : a.ws.length ≤ maxLen ∧ a.ss.length ≤ maxLen) (h : ∀ x ∈ a.ss, ARd S x) : ARd S a
theorem ARd.w {S : HProp} {a : AskV} : ARd S a → Srd S 1 strC a.w.a a.w.xs | .mk h _ _ _ => h
theorem ARd.s {S : HProp} {a : AskV} : ARd S a → Srd S 4 askC a.sa a.ss | .mk _ h _ _ => h
theorem ARd.l {S : HProp} {a : AskV} : ARd S a → a.ws.length ≤ maxLen ∧ a.ss.length ≤ maxLen | .mk _ _ h _ => h
theorem ARd.sub {S : HProp} {a : AskV} : ARd S a → ∀ x ∈ a.ss, ARd S x | .mk _ _ _ h => h
theorem ARd.bigs {S : HProp} {L : List HProp} {a : AskV} (h : ARd S a) (m : S ∈ L) : ARd (big L) a := by
 induction h with
 | mk hw hs hl h ih => exact .mk (Srd.bigs hw m) (Srd.bigs hs m) hl ih
def FewA : Nat → AskV → Prop
 | 0, _ => False
 | d + 1, a => a.ws.length ≤ 30 ∧ (∀ w ∈ a.ws, w.size ≤ 100) ∧ a.ss.length ≤ 60 ∧ ∀ x ∈ a.ss, FewA d x
def sizeA : Nat → AskV → Nat
 | 0, _ => 1
 | d + 1, a => 1 + (a.ss.map (sizeA d)).sum
def deepA : Nat → AskV → Nat
 | 0, _ => 0
 | d + 1, a => (a.ss.map (deepA d)).foldl max 0 + 1
def termsA : Nat → AskV → Nat
 | 0, _ => 0
 | d + 1, a => if a.ss = [] then max a.ws.length 1 else (a.ss.map (termsA d)).sum
def shapeB (a : AskV) : Bool :=
 if a.kind = 1 ∨ a.kind = 2 then decide (a.n = 0) && decide (a.ss = []) && decide (a.ws.length = 1)
 else if a.kind = 3 then decide (a.n = 0) && decide (a.ss = []) && (decide (1 ≤ a.ws.length) && decide (a.ws.length ≤ 16))
 else if a.kind = 4 then decide (a.ws = []) && decide (a.ss = []) && (decide (0 ≤ a.n) && decide (a.n < 8))
 else if a.kind = 5 ∨ a.kind = 6 then decide (a.ws = []) && decide (a.ss = []) && (decide (0 ≤ a.n) && decide (a.n ≤ 1099511627776))
 else if a.kind = 9 then decide (a.n = 0) && decide (a.ws = []) && decide (a.ss.length = 1)
 else if a.kind = 7 ∨ a.kind = 8 then decide (a.n = 0) && decide (a.ws = []) && decide (2 ≤ a.ss.length)
 else false
def goodA (odd : ByteArray → Bool) : Nat → AskV → Bool
 | 0, _ => false
 | d + 1, a => shapeB a && (a.ws.all (fun w => !odd w) && a.ss.all (goodA odd d))
def atB (ws ps : List ByteArray) (i : Nat) : Bool := (List.range ps.length).all fun k => decide (ws[i + k]? = ps[k]?)
def infB (ws ps : List ByteArray) : Bool := decide (ps ≠ []) && (List.range ws.length).any fun i => atB ws ps i
def holdsA (pre : ByteArray → ByteArray → Bool) (r : Rec) (ws : List ByteArray) : Nat → AskV → Bool
 | 0, _ => false
 | d + 1, a =>
   if a.kind = 1 ∨ a.kind = 3 then infB ws a.ws
   else if a.kind = 2 then ws.any fun w => pre w (a.ws.headD ⟨#[]⟩)
   else if a.kind = 4 then decide (r.o = a.n)
   else if a.kind = 5 then decide (a.n ≤ r.w)
   else if a.kind = 6 then decide (r.w ≤ a.n)
   else if a.kind = 8 then a.ss.any (holdsA pre r ws d)
   else if a.kind = 9 then !(match a.ss with | [] => false | x :: _ => holdsA pre r ws d x)
   else a.ss.all (holdsA pre r ws d)
end Go.Qu
namespace Go.Proofs.YtklgiidfompdpaaGreatDoor
open Go Go.Sl Go.Gv Go.Ix Go.Qu
set_option maxRecDepth 100000
abbrev encC_26 : AskV → List Value := askC
theorem ek_26 : EncOk 4 askC := ⟨fun _ => rfl, fun x v hv => by
 simp only [askC, List.mem_cons, List.not_mem_nil, or_false] at hv
 rcases hv with rfl | rfl | rfl | rfl <;> rfl⟩
end Go.Proofs.YtklgiidfompdpaaGreatDoor
namespace Go.Qu
open Go Go.Sl Go.Gv Go.Ix
theorem size_pos (d : Nat) (a : AskV) : 1 ≤ sizeA d a := by cases d <;> simp [sizeA]
theorem sum_len (d : Nat) (l : List AskV) : l.length ≤ (l.map (sizeA d)).sum := by
 induction l with
 | nil => exact Nat.le_refl _
 | cons a l ih => have := size_pos d a; simp only [List.map_cons, List.sum_cons, List.length_cons]; omega
theorem sum_take {l : List AskV} {f : AskV → Nat} {i : Nat} {x : AskV} (h : l[i]? = some x) : ((l.take (i + 1)).map f).sum = ((l.take i).map f).sum + f x := by
 rw [List.take_add_one, h, List.map_append, List.sum_append]; simp
theorem mem_take {l : List AskV} {p : AskV → Prop} {i : Nat} {x : AskV} (h : l[i]? = some x) (h1 : ∀ y ∈ l.take i, p y) (h2 : p x) : ∀ y ∈ l.take (i + 1), p y := fun y hy => by
 rw [List.take_add_one, h] at hy
 rcases List.mem_append.1 hy with hy | hy
 · exact h1 y hy
 · simp at hy; subst hy; exact h2
theorem deep_le : ∀ (d : Nat) (a : AskV), deepA d a ≤ d
 | 0, _ => Nat.le_refl _
 | d + 1, a => by
   have h : ∀ (l : List Nat) (m : Nat), m ≤ d → (∀ x ∈ l, x ≤ d) → l.foldl max m ≤ d := fun l => by
     induction l with
     | nil => exact fun m hm _ => hm
     | cons x l ih => exact fun m hm hl => ih (max m x) (Nat.max_le.2 ⟨hm, hl x (by simp)⟩) fun y hy => hl y (by simp [hy])
   have := h (a.ss.map (deepA d)) 0 (Nat.zero_le _) fun x hx => by
     obtain ⟨y, -, rfl⟩ := List.mem_map.1 hx
     exact deep_le d y
   simp only [deepA]; omega
theorem deep_fold (d : Nat) (l : List AskV) : (l.map (deepA d)).foldl max 0 ≤ d := by
 have h : ∀ (l : List Nat) (m : Nat), m ≤ d → (∀ x ∈ l, x ≤ d) → l.foldl max m ≤ d := fun l => by
   induction l with
   | nil => exact fun m hm _ => hm
   | cons x l ih => exact fun m hm hl => ih (max m x) (Nat.max_le.2 ⟨hm, hl x (by simp)⟩) fun y hy => hl y (by simp [hy])
 exact h _ 0 (Nat.zero_le _) fun x hx => by
   obtain ⟨y, -, rfl⟩ := List.mem_map.1 hx
   exact deep_le d y
theorem deep_take {d : Nat} {l : List AskV} {i : Nat} {y : AskV} (h : l[i]? = some y) : ((l.take (i + 1)).map (deepA d)).foldl max 0 = max (((l.take i).map (deepA d)).foldl max 0) (deepA d y) := by
 rw [List.take_add_one, h, List.map_append, List.foldl_append]; rfl
theorem max_cast (a b : Nat) : max ((a : Nat) : Int) ((b : Nat) : Int) = ((max a b : Nat) : Int) := by omega
theorem terms_le : ∀ (d : Nat) (a : AskV), FewA d a → termsA d a ≤ 30 * sizeA d a
 | 0, _, h => h.elim
 | d + 1, a, ⟨h1, h2, h3, h4⟩ => by
   simp only [termsA, sizeA]
   by_cases he : a.ss = []
   · rw [if_pos he]; have : max a.ws.length 1 ≤ 30 := Nat.max_le.2 ⟨h1, by decide⟩
     omega
   · rw [if_neg he]
     have h : ∀ l : List AskV, (∀ x ∈ l, FewA d x) → (l.map (termsA d)).sum ≤ 30 * (l.map (sizeA d)).sum := fun l => by
       induction l with
       | nil => exact fun _ => Nat.le_refl _
       | cons x l ih => intro hl; have e1 := ih fun y hy => hl y (by simp [hy]); have e2 := terms_le d x (hl x (by simp)); simp only [List.map_cons, List.sum_cons]; omega
     have := h a.ss h4; omega
end Go.Qu
namespace Go.Proofs.YtklgiidfompdpaaGreatDoor
open Go Go.Sl Go.Gv Go.Kv Go.Po Go.Ix Go.Qu
set_option maxRecDepth 100000
theorem greatTexts_spec {S : HProp} {a : Option Addr} {c : Nat} {xs : List ByteArray} (hS : Srd S 1 strC a xs) (hl : xs.length ≤ 9223372036854775807) (k z : Int) :
   Ct Tryz.prog 46 [.slice a xs.length c, int k, int z] [S] (fun v hs => (∃ b : Bool, v = .bool b ∧ (b = false → xs.length ≤ k ∧ ∀ w ∈ xs, (w.size : Int) ≤ z)) ∧ hs = [S]) := by
 refine Cti Tryz.func46 (by kernel_rfl) 31 Tryz.ntmps46 rfl rfl fun w0 R => ?_
 refine Gs.slAddr (hS.h (by repeat constructor)) fun ab ao ha => ?_
 refine Gsr (Las rfl rfl (Lnt (Gs.seq (Gsr (Las rfl rfl (Lnt (Gs.block (Gs.loop1 (fun i : Nat => i ≤ xs.length ∧ ∀ w ∈ xs.take i, (w.size : Int) ≤ z) (fun i => [(0, .slice a xs.length c), (1, int k), (2, int z), (7, int i)]) (fun i => [S] ++ R) (fun i => xs.length - i) 0 (⟨Nat.zero_le _, fun w hw => by cases hw⟩) (by repeat constructor) (by repeat constructor) (fun i ⟨hi, hz⟩ => ?_)))))))))
 refine Gs.seq (Gsr (Lmv rfl rfl (Lmv rfl rfl (Lq rfl (pu_len Tryz.underlying23 rfl) (Lq rfl (pu_lt rfl rfl) (LpuB rfl rfl trivial (pu_move rfl) (fun hg4 => ?_) (fun hg4 => ?_)))))))
 ·
  have hlt : i < xs.length := by have := of_decide_eq_true hg4; omega
  obtain ⟨x, hx⟩ : ∃ x, xs[i]? = some x := ⟨xs[i], by simp [hlt]⟩
  obtain rfl := ha (by rintro rfl; simp at hlt)
  refine Lpu rfl rfl ⟨_, rfl, rfl⟩ (pu_move rfl) (Lpu rfl rfl ⟨_, rfl, rfl⟩ (pu_len Tryz.underlying23 rfl) (Lpu rfl rfl ⟨_, rfl, rfl⟩ (pu_move rfl) (Lpu rfl rfl ⟨_, rfl, rfl⟩ (pu_le rfl rfl) (Lpk rfl rfl rfl (Lnt (Gs.cond rfl (fun hc0 => ?_) (fun hc0 => ?_)))))))
  ·
   refine Gs.skip (Gn (Gs.seq (Gs.block (Gsr (Lmv rfl rfl (Lmv rfl rfl (Lq rfl (pu_ia se_23 rfl rfl (by omega) (by omega)) (Lr rfl (rd_ld na_9 rfl (Rdc.el0 (hS.h (by repeat constructor)) hx rfl rfl)) ?_))))))))
   refine Lq rfl (pu_lenS Tryz.underlying9 rfl) (Lmv rfl rfl (Lq rfl (pu_gt rfl rfl) (Lnt (Gs.cond rfl (fun hc1 => ?_) (fun hc1 => ?_)))))
   ·
    refine Gsr (Las rfl rfl (Lnt (Gs.ret (Gs.blk_r (Gr (Gr (Gs.blk_r (Gr ?_))))))))
    exact Gs.fin1 Tryz.results46 rfl _ (⟨⟨true, rfl, fun h => by cases h⟩, rfl⟩) (by repeat constructor)
   have hxz : (x.size : Int) ≤ z := by have := of_decide_eq_false hc1; omega
   refine Gs.skip (Gs.blk_n (Gn (Gs.reg (Lmv rfl rfl (Lq rfl (by first | exact pu_addI rfl rfl rfl (by omega) (by omega) | exact pu_add rfl rfl) ?_)))))
   refine Las rfl rfl (Lnt ?_)
   exact Gs.again1 (i + 1) ⟨by omega, fun w hw => by
     rw [List.take_add_one, hx] at hw
     rcases List.mem_append.1 hw with hw | hw
     · exact hz w hw
     · simp at hw; subst hw; exact hxz⟩ (by omega) (by repeat constructor) (by repeat constructor)
  refine Gs.exit (Gx (Gx (Gs.blk_hit (Gn (Gsr (Lmv rfl rfl (Lq rfl (pu_len Tryz.underlying23 rfl) (Lmv rfl rfl (Lq rfl (pu_gt rfl rfl) (Las rfl rfl (Lnt ?_)))))))))))
  refine Gs.ret ?_
  exact Gs.fin1 Tryz.results46 rfl _ (⟨⟨_, rfl, fun h => by have := of_decide_eq_false h; exact ⟨by omega, by first | exact hall | exact absurd (by omega) (of_decide_eq_false hc0)⟩⟩, rfl⟩) (by repeat constructor)
 have hge : i = xs.length := by have := of_decide_eq_false hg4; omega
 have hall : ∀ w ∈ xs, (w.size : Int) ≤ z := by rw [hge, List.take_length] at hz; exact hz
 refine Lof rfl (Lof rfl (Lof rfl (Lof rfl (Lpk rfl rfl rfl (Lnt (Gs.cond_f rfl (Gs.exit (Gx (Gx (Gs.blk_hit (Gn ?_)))))))))))
 refine Gsr (Lmv rfl rfl (Lq rfl (pu_len Tryz.underlying23 rfl) (Lmv rfl rfl (Lq rfl (pu_gt rfl rfl) (Las rfl rfl (Lnt (Gs.ret ?_)))))))
 exact Gs.fin1 Tryz.results46 rfl _ (⟨⟨_, rfl, fun h => by have := of_decide_eq_false h; exact ⟨by omega, by first | exact hall | exact absurd (by omega) (of_decide_eq_false hc0)⟩⟩, rfl⟩) (by repeat constructor)
theorem parts_spec {S : HProp} : ∀ (d : Nat) {a : Option Addr} {c : Nat} {xs : List AskV} (hS : Srd S 4 askC a xs) (hA : ∀ x ∈ xs, ARd S x) (hl : xs.length ≤ maxLen) (most : Int) (h0 : -1 ≤ most) (h1 : most ≤ 60) (hd : d ≤ 1000),
   Ct Tryz.prog 29 [.slice a xs.length c, int most, int ((d : Int) - 1)] [S] (fun v hs => (∃ n : Int, v = int n ∧ 0 ≤ n ∧ n ≤ most + 1 ∧ (n ≤ most → (∀ x ∈ xs, FewA d x) ∧ (((xs.map (sizeA d)).sum : Nat) : Int) ≤ n)) ∧ hs = [S])
 | 0, a, c, xs, hS, hA, hl, most, h0, h1, hd => by
   refine Cti Tryz.func29 (by kernel_rfl) 48 Tryz.ntmps29 rfl rfl fun w0 R => ?_
   refine Gsr (Las rfl rfl (Lnt (Gsr (Las rfl rfl (Lnt (Gs.seq (Gsr (Lmv rfl rfl (Lq rfl (pu_lt rfl rfl) (Lnt (Gs.cond_tt rfl (by decide) ?_)))))))))))
   refine Gsr (Lmv rfl rfl (Lq rfl (pu_addI (z := most + 1) rfl rfl rfl (by omega) (by omega)) ?_))
   refine Las rfl rfl (Lnt (Gs.ret (Gr ?_)))
   exact Gs.fin1 Tryz.results29 rfl _ (⟨⟨most + 1, rfl, by omega, Int.le_refl _, fun h => by omega⟩, rfl⟩) (by repeat constructor)
 | d + 1, a, c, xs, hS, hA, hl, most, h0, h1, hd => by
   have ih := @parts_spec S d
   have hmx : maxLen = 9223372036854775807 := by decide
   refine Cti Tryz.func29 (by kernel_rfl) 48 Tryz.ntmps29 rfl rfl fun w0 R => ?_
   refine Gs.slAddr (hS.h (by repeat constructor)) fun ab ao ha => ?_
   refine Gsr (Las rfl rfl (Lnt (Gsr (Las rfl rfl (Lnt (Gs.seq (Gsr (Lmv rfl rfl (Lq rfl (pu_lt rfl rfl) (Lnt (Gs.cond_ff rfl (decide_eq_false (by omega)) ?_)))))))))))
   refine Gs.skip (Gn (Gs.seq (Gsr (Las rfl rfl (Lnt (Gs.block (Gs.loop1 (fun s : Nat × Int => s.1 ≤ xs.length ∧ 0 ≤ s.2 ∧ s.2 ≤ most + 1 ∧ (s.2 ≤ most → (∀ x ∈ xs.take s.1, FewA (d + 1) x) ∧ ((((xs.take s.1).map (sizeA (d + 1))).sum : Nat) : Int) ≤ s.2)) (fun s => [(0, .slice a xs.length c), (1, int most), (2, int (((d + 1 : Nat) : Int) - 1)), (7, int s.2), (8, int s.1)]) (fun s => [S] ++ R) (fun s => xs.length - s.1) (0, 0) (⟨Nat.zero_le _, by decide, by show (0 : Int) ≤ most + 1; omega, fun _ => ⟨(fun x hx => by cases hx), Int.le_refl _⟩⟩) (by repeat constructor) (by repeat constructor) (fun s hs => ?_))))))))
   obtain ⟨i, n⟩ := s
   obtain ⟨hi, hn0, hn1, hn⟩ := hs
   dsimp only at hi hn0 hn1 hn ⊢
   refine Gs.seq (Gsr (Lmv rfl rfl (Lmv rfl rfl (Lq rfl (pu_len Tryz.underlying24 rfl) (Lq rfl (pu_lt rfl rfl) (LpuB rfl rfl trivial (pu_move rfl) (fun hg4 => ?_) (fun hg4 => ?_)))))))
   ·
    have hlt : i < xs.length := by have := of_decide_eq_true hg4; omega
    obtain ⟨x, hx⟩ : ∃ x, xs[i]? = some x := ⟨xs[i], by simp [hlt]⟩
    obtain rfl := ha (by rintro rfl; simp at hlt)
    have hxm := List.mem_of_getElem? hx
    have hxa := hA x hxm
    have hxl := hxa.l
    refine Lpu rfl rfl ⟨_, rfl, rfl⟩ (pu_move rfl) (Lpu rfl rfl ⟨_, rfl, rfl⟩ (pu_move rfl) (Lpu rfl rfl ⟨_, rfl, rfl⟩ (pu_le rfl rfl) (Lpk rfl rfl rfl (Lnt (Gs.cond rfl (fun hc1 => ?_) (fun hc1 => ?_))))))
    ·
     have hnm : n ≤ most := of_decide_eq_true hc1
     obtain ⟨hfw, hsz⟩ := hn hnm
     refine Gs.skip (Gn (Gs.seq (Gs.block (Gs.seq (Gsr (Lmv rfl rfl (Lmv rfl rfl (Lq rfl (pu_ia se_24 rfl rfl (by omega) (by omega)) (Lq rfl (pu_fa fa_26_2 rfl) (Lr rfl (rd_ld na_23 rfl (Rdc.elp 1 (f := 2) (hS.h (by repeat constructor)) hx rfl rfl)) ?_))))))))))
     refine La rfl (asC (greatTexts_spec hxa.w (by have h : x.w.xs.length ≤ maxLen := hxl.1; omega) 30 100)) ?_
     rintro _ _ ⟨_, ⟨⟨gt, rfl, hgt⟩, rfl⟩, rfl⟩
     refine Lnt (Gs.cond rfl (fun hc2 => ?_) (fun hc2 => ?_))
     ·
      refine Gsr (Lmv rfl rfl (Lq rfl (pu_addI (z := most + 1) rfl rfl rfl (by omega) (by omega)) ?_))
      refine Las rfl rfl (Lnt (Gs.ret (Gr (Gs.blk_r (Gr (Gr (Gs.blk_r (Gr ?_))))))))
      exact Gs.fin1 Tryz.results29 rfl _ (⟨⟨most + 1, rfl, by omega, Int.le_refl _, fun h => by omega⟩, rfl⟩) (by repeat constructor)
     obtain ⟨hw1, hw2⟩ := hgt hc2
     refine Gs.skip (Gn (Gs.reg (Lmv rfl rfl (Lq rfl (pu_addI (z := n + 1) rfl rfl rfl (by omega) (by omega)) ?_))))
     refine Lmv rfl rfl (Lmv rfl rfl (Lq rfl (pu_ia se_24 rfl rfl (by omega) (by omega)) (Lq rfl (pu_fa fa_26_3 rfl) (Lr rfl (rd_ld na_24 rfl (Rdc.elp 1 (f := 3) (hS.h (by repeat constructor)) hx rfl rfl)) ?_))))
     refine Lmv rfl rfl (Lmv rfl rfl (Lq rfl (pu_subI (z := most - n) rfl rfl rfl (by omega) (by omega)) ?_))
     refine Lq rfl (pu_subI (z := most - n - 1) rfl rfl rfl (by omega) (by omega)) ?_
     refine Lmv rfl rfl (Lq rfl (pu_subI (z := (d : Int) - 1) rfl rfl (by omega) (by omega) (by omega)) ?_)
     refine La rfl (asC (ih hxa.s hxa.sub hxl.2 (most - n - 1) (by omega) (by omega) (by omega))) ?_
     rintro _ _ ⟨_, ⟨⟨m, rfl, hm0, hm1, hm⟩, rfl⟩, rfl⟩
     refine Lq rfl (pu_addI (z := n + 1 + m) rfl rfl rfl (by omega) (by omega)) ?_
     refine Las rfl rfl (Lnil (Gs.blk_n (Gn (Gs.reg (Lmv rfl rfl (Lq rfl (by first | exact pu_addI rfl rfl rfl (by omega) (by omega) | exact pu_add rfl rfl) ?_))))))
     refine Las rfl rfl (Lnt ?_)
     exact Gs.again1 (i + 1, n + 1 + m) ⟨hlt, by show 0 ≤ n + 1 + m; omega, by show n + 1 + m ≤ most + 1; omega, fun h => by
       have h' : n + 1 + m ≤ most := h
       obtain ⟨g1, g2⟩ := hm (by omega)
       have hsl := sum_len d x.ss
       refine ⟨mem_take hx hfw ⟨(show x.w.xs.length ≤ 30 by omega), fun w hw => by have := hw2 w hw; omega, by omega, g1⟩, ?_⟩
       show ((((xs.take (i + 1)).map (sizeA (d + 1))).sum : Nat) : Int) ≤ n + 1 + m
       rw [sum_take hx]
       show (((((xs.take i).map (sizeA (d + 1))).sum + (1 + (x.ss.map (sizeA d)).sum)) : Nat) : Int) ≤ n + 1 + m
       omega⟩ (by show xs.length - (i + 1) < xs.length - i; omega) (by repeat constructor) (by repeat constructor)
    refine Gs.exit (Gx (Gx (Gs.blk_hit (Gn (Gsr (Lmv rfl rfl (Las rfl rfl (Lnt (Gs.ret ?_)))))))))
    exact Gs.fin1 Tryz.results29 rfl _ (⟨⟨n, rfl, hn0, hn1, by first | exact hall | exact fun h => absurd h (of_decide_eq_false hc1)⟩, rfl⟩) (by repeat constructor)
   have hge : i = xs.length := by have := of_decide_eq_false hg4; omega
   have hall : n ≤ most → (∀ x ∈ xs, FewA (d + 1) x) ∧ (((xs.map (sizeA (d + 1))).sum : Nat) : Int) ≤ n := by rw [hge, List.take_length] at hn; exact hn
   refine Lof rfl (Lof rfl (Lof rfl (Lpk rfl rfl rfl (Lnt (Gs.cond_f rfl (Gs.exit (Gx (Gx (Gs.blk_hit (Gn (Gsr ?_)))))))))))
   refine Lmv rfl rfl (Las rfl rfl (Lnt (Gs.ret ?_)))
   exact Gs.fin1 Tryz.results29 rfl _ (⟨⟨n, rfl, hn0, hn1, by first | exact hall | exact fun h => absurd h (of_decide_eq_false hc1)⟩, rfl⟩) (by repeat constructor)
theorem partsL_spec {L : List HProp} (d : Nat) {a : Option Addr} {c : Nat} {xs : List AskV} (hS : Srd (big L) 4 askC a xs) (hA : ∀ x ∈ xs, ARd (big L) x) (hl : xs.length ≤ maxLen) (most : Int) (h0 : -1 ≤ most) (h1 : most ≤ 60) (hd : d ≤ 1000) :
   Ct Tryz.prog 29 [.slice a xs.length c, int most, int ((d : Int) - 1)] L (fun v hs => (∃ n : Int, v = int n ∧ 0 ≤ n ∧ n ≤ most + 1 ∧ (n ≤ most → (∀ x ∈ xs, FewA d x) ∧ (((xs.map (sizeA d)).sum : Nat) : Int) ≤ n)) ∧ hs = L) :=
 (Ct.bigs (parts_spec (c := c) d hS hA hl most h0 h1 hd) fun v hs hh => ⟨[], hh.2⟩).mono fun v hs ⟨r, ⟨e1, e2⟩, e3⟩ => ⟨e1, by cases e2; rw [e3, List.append_nil]⟩
theorem greatAsk_spec {S : HProp} {x : AskV} (hx : ARd S x) :
   Ct Tryz.prog 8 [askV x] [S] (fun v hs => (∃ b : Bool, v = .bool b ∧ (b = false → FewA 13 x ∧ sizeA 13 x ≤ 60)) ∧ hs = [S]) := by
 refine Cti Tryz.func8 (by kernel_rfl) 7 Tryz.ntmps8 rfl rfl fun w0 R => ?_
 refine Gsr (La rfl (ac_box rfl rfl) ?_)
 rintro _ _ ⟨xb, rfl, rfl⟩
 refine Las rfl rfl (Lnt (Gsr (Lr rfl (rd_lda ag_26 rfl (Rdc.cl 4 (by repeat constructor) rfl) rfl) ?_)))
 refine La rfl (ac_lit encC_26 ([x]) et_24 ek_26 rfl (by repeat constructor) rfl rfl (by decide)) ?_
 rintro _ _ ⟨a4, rfl, rfl⟩
 refine La rfl (asC (partsL_spec (L := [sl 26 4 askC (some ⟨a4, 0, none⟩) 1 [x], S]) 13 (xs := [x]) (Srd.bigs (A := sl 26 4 askC (some ⟨a4, 0, none⟩) 1 [x]) Srd.own (by simp)) (fun y hy => by simp only [List.mem_singleton] at hy; subst hy; exact hx.bigs (by simp)) (by show 1 ≤ maxLen; decide) 60 (by decide) (by decide) (by decide))) ?_
 rintro _ _ ⟨_, ⟨⟨n, rfl, hn0, hn1, hn⟩, rfl⟩, rfl⟩
 refine Lq rfl (pu_gt rfl rfl) (Las rfl rfl (Lnt (Gs.ret ?_)))
 exact Gs.fin1 Tryz.results8 rfl _ (⟨⟨_, rfl, fun h => by
   obtain ⟨g1, g2⟩ := hn (by have := of_decide_eq_false h; omega)
   refine ⟨g1 x (by simp), ?_⟩
   have h3 : (([x] : List AskV).map (sizeA 13)).sum = sizeA 13 x := by simp
   rw [h3] at g2
   have := of_decide_eq_false h
   omega⟩, rfl⟩) (by repeat constructor)
theorem deep14_spec {S : HProp} : ∀ (d : Nat) {x : AskV} (hA : ARd S x) (hF : FewA d x) (hd : d ≤ 1000),
   Ct Tryz.prog 56 [askV x] [S] (fun v hs => v = int (deepA d x : Nat) ∧ hs = [S])
 | 0, x, hA, hF, hd => hF.elim
 | d + 1, x, hA, hF, hd => by
   have ih := @deep14_spec S d
   obtain ⟨hf1, hf2, hf3, hf4⟩ := hF
   obtain ⟨v0, hv0⟩ : ∃ z, z = deepA (d + 1) x := ⟨_, rfl⟩
   have hvd : v0 = (x.ss.map (deepA d)).foldl max 0 + 1 := hv0
   have hdf := deep_fold d x.ss
   rw [← hv0]
   refine Cti Tryz.func56 (by kernel_rfl) 22 Tryz.ntmps56 rfl rfl fun w0 R => ?_
   refine Gs.slAddr (hA.s.h (by repeat constructor)) fun ab ao ha => ?_
   refine Gsr (La rfl (ac_box rfl rfl) ?_)
   rintro _ _ ⟨xb, rfl, rfl⟩
   refine Las rfl rfl (Lnt (Gsr (Las rfl rfl (Lnt (Gs.seq (Gsr (Las rfl rfl (Lnt (Gs.block (Gs.loop1 (fun i : Nat => i ≤ x.ss.length) (fun i => [(1, ptr xb), (3, int (((x.ss.take i).map (deepA d)).foldl max 0 : Nat)), (4, int i)]) (fun i => [cl xb 26 (askC x), S] ++ R) (fun i => x.ss.length - i) 0 (Nat.zero_le _) (by repeat constructor) (by repeat constructor) (fun i hi => ?_)))))))))))
   refine Gs.seq (Gsr (Lmv rfl rfl (Lq rfl (pu_fa fa_26_3 rfl) (Lr rfl (rd_ld na_24 rfl (Rdc.cl1 (by repeat constructor) rfl)) ?_))))
   refine Lq rfl (pu_len Tryz.underlying24 rfl) (Lq rfl (pu_lt rfl rfl) (Lnt (Gs.cond rfl (fun hc0 => ?_) (fun hc0 => ?_))))
   ·
    have hlt : i < x.ss.length := by have := of_decide_eq_true hc0; omega
    obtain ⟨y, hy⟩ : ∃ y, x.ss[i]? = some y := ⟨x.ss[i], by simp [hlt]⟩
    have hsa := ha (fun e => by rw [e] at hlt; exact Nat.not_lt_zero _ hlt)
    have hs := hA.s
    rw [hsa] at hs
    have hym := List.mem_of_getElem? hy
    have hbd := deep_le d y
    refine Gs.skip (Gn (Gs.seq (Gs.block (Gs.reg (Lmv rfl rfl (Lq rfl (pu_fa fa_26_3 rfl) (Lr rfl (rd_ld na_24 rfl (Rdc.cl1 (by repeat constructor) rfl)) ?_)))))))
    rw [hsa]
    refine Lmv rfl rfl (Lq rfl (pu_ia se_24 rfl rfl (by omega) (by omega)) (Lr rfl (rd_lda ag_26 rfl (Rdc.el0 (hs.h (by repeat constructor)) hy rfl rfl) rfl) ?_))
    refine La rfl (asC (ih (hA.sub y hym) (hf4 y hym) (by omega))) ?_
    rintro _ _ ⟨_, ⟨rfl, rfl⟩, rfl⟩
    refine Lq rfl (pu_max rfl rfl) ?_
    rw [max_cast, ← deep_take hy]
    refine Las rfl rfl (Lnil (Gs.blk_n (Gn (Gs.reg (Lmv rfl rfl (Lq rfl (pu_addI (z := ((i + 1 : Nat) : Int)) rfl rfl (by omega) (by omega) (by omega)) ?_))))))
    refine Las rfl rfl (Lnt ?_)
    exact Ag (i + 1) (by omega) (by omega)
   have hge : i = x.ss.length := by have := of_decide_eq_false hc0; omega
   rw [hge, List.take_length]
   refine Gs.exit (Gx (Gx (Gs.blk_hit (Gn (Gsr (Lmv rfl rfl (Lq rfl (pu_addI (z := ((v0 : Nat) : Int)) rfl rfl (by omega) (by omega) (by omega)) ?_)))))))
   refine Las rfl rfl (Lnt (Gs.ret ?_))
   exact Gs.fin1 Tryz.results56 rfl _ (⟨rfl, rfl⟩) (by repeat constructor)
theorem deepA_spec {S : HProp} : ∀ (d : Nat) {x : AskV} (hA : ARd S x) (hF : FewA d x) (hd : d ≤ 1000),
   Ct Tryz.prog 67 [askV x] [S] (fun v hs => v = int (deepA d x : Nat) ∧ hs = [S])
 | 0, x, hA, hF, hd => hF.elim
 | d + 1, x, hA, hF, hd => by
   have ih := @deepA_spec S d
   obtain ⟨hf1, hf2, hf3, hf4⟩ := hF
   obtain ⟨v0, hv0⟩ : ∃ z, z = deepA (d + 1) x := ⟨_, rfl⟩
   have hvd : v0 = (x.ss.map (deepA d)).foldl max 0 + 1 := hv0
   have hdf := deep_fold d x.ss
   rw [← hv0]
   refine Cti Tryz.func67 (by kernel_rfl) 20 Tryz.ntmps67 rfl rfl fun w0 R => ?_
   refine Gs.slAddr (hA.s.h (by repeat constructor)) fun ab ao ha => ?_
   refine Gsr (La rfl (ac_box rfl rfl) ?_)
   rintro _ _ ⟨xb, rfl, rfl⟩
   refine Las rfl rfl (Lnt (Gsr (Las rfl rfl (Lnt (Gs.seq (Gsr (Lq rfl (pu_fa fa_26_3 rfl) (Lr rfl (rd_ld na_24 rfl (Rdc.cl1 (by repeat constructor) rfl)) ?_))))))))
   refine Lq rfl (pu_len Tryz.underlying24 rfl) (Lmv rfl rfl (Lnt (Gs.block (Gs.loop1 (fun i : Nat => i ≤ x.ss.length) (fun i => [(1, ptr xb), (3, int (((x.ss.take i).map (deepA d)).foldl max 0 : Nat)), (7, .slice x.sa x.ss.length x.sc), (8, int x.ss.length), (9, int i)]) (fun i => [cl xb 26 (askC x), S] ++ R) (fun i => x.ss.length - i) 0 (Nat.zero_le _) (by repeat constructor) (by repeat constructor) (fun i hi => ?_)))))
   refine Gsr (Lq rfl (pu_lt rfl rfl) (Lnt (Gs.seq (Gs.cond rfl (fun hc0 => ?_) (fun hc0 => ?_)))))
   ·
    have hlt : i < x.ss.length := by have := of_decide_eq_true hc0; omega
    obtain ⟨y, hy⟩ : ∃ y, x.ss[i]? = some y := ⟨x.ss[i], by simp [hlt]⟩
    have hsa := ha (fun e => by rw [e] at hlt; exact Nat.not_lt_zero _ hlt)
    have hs := hA.s
    rw [hsa] at hs
    have hym := List.mem_of_getElem? hy
    have hbd := deep_le d y
    rw [hsa]
    refine Gs.skip (Gn (Gs.seq (Gs.block (Gsr (Lq rfl (pu_ia se_24 rfl rfl (by omega) (by omega)) (Lr rfl (rd_lda ag_26 rfl (Rdc.el0 (hs.h (by repeat constructor)) hy rfl rfl) rfl) ?_))))))
    refine La rfl (ac_alloc zv_26 rfl) ?_
    rintro _ _ ⟨vb, rfl, rfl⟩
    refine Lac0 rfl trivial (ac_st sz_26 rfl rfl (by repeat constructor) rfl rfl rfl rfl) ?_
    rintro _ _ rfl
    refine Lnt (Gs.reg (Lmv rfl rfl (Lr rfl (rd_lda ag_26 rfl (Rdc.cl 4 (by repeat constructor) rfl) rfl) ?_)))
    refine La rfl (asC (ih (hA.sub y hym) (hf4 y hym) (by omega))) ?_
    rintro _ _ ⟨_, ⟨rfl, rfl⟩, rfl⟩
    refine Lq rfl (pu_max rfl rfl) ?_
    rw [max_cast, ← deep_take hy]
    refine Las rfl rfl (Lnil (Gs.blk_n (Gn (Gs.reg (Lq rfl (pu_addI (z := ((i + 1 : Nat) : Int)) rfl rfl (by omega) (by omega) (by omega)) ?_)))))
    refine Lmv rfl rfl (Lnt ?_)
    rw [← hsa]
    exact Ag (i + 1) (by omega) (by omega)
   have hge : i = x.ss.length := by have := of_decide_eq_false hc0; omega
   rw [hge, List.take_length]
   refine Gs.exit (Gx (Gx (Gs.blk_hit (Gn (Gsr (Lmv rfl rfl (Lq rfl (pu_addI (z := ((v0 : Nat) : Int)) rfl rfl (by omega) (by omega) (by omega)) ?_)))))))
   refine Las rfl rfl (Lnt (Gs.ret ?_))
   exact Gs.fin1 Tryz.results67 rfl _ (⟨rfl, rfl⟩) (by repeat constructor)
end Go.Proofs.YtklgiidfompdpaaGreatDoor
